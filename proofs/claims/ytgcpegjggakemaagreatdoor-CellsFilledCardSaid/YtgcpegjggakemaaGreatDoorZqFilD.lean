/- Contracts of functions that this seat's laws reach, each: what one call returns and what it leaves in memory; no condition beyond each theorem's own hypotheses. -/
import Derived.Test.YtgcpegjggakemaaGreatDoorZqHasA
import Derived.Test.YtgcpegjggakemaaGreatDoorZqRegIn
import Derived.Test.YtgcpegjggakemaaGreatDoorZqRegCat
import Derived.Test.YtgcpegjggakemaaGreatDoorZqCelAB
import Derived.Test.YtgcpegjggakemaaGreatDoorZqCelM
import Derived.Deep.DeepCutAuto
set_option linter.unusedVariables false
set_option linter.unusedSimpArgs false
namespace Go.Proofs.YtgcpegjggakemaaGreatDoor
open Go Go.RowKit Go.Bl

theorem stepFaultP_any (n : Int) (w : World) :
    Calls Tryz.prog 64 #[.int .i64 n] w fun e w' => e = .returned (.int .i64 (if stepB n then 1 else 0)) ∧ w = w' := by
  obtain ⟨F, hF⟩ : ∃ F : Int, F = if stepB n then 1 else 0 := ⟨_, rfl⟩
  rw [← hF]
  replace hF := hide hF
  go_enter Tryz.func64, Tryz.ntmps64
  go_wp2_with fail
  refine (outside_any _ _ _ _).mono ?_
  rintro _ _ ⟨rfl, rfl⟩
  rcases h1 : outB n 2 10000 with _ | _
  rotate_left
  · have hV : Hid (F = 1) := by rw [Hid, hF.out, if_pos (by simp [stepB, h1])]
    clear hF
    go_wp2_with fail
    go_ret
    exact ⟨ret_int hV.out.symm, rfl⟩
  rcases h2 : (n.tmod 2 != 0) with _ | _
  · have hV : Hid (F = 0) := by rw [Hid, hF.out, if_neg (by simp [stepB, h1]; simpa using h2)]
    clear hF
    go_wp2_with fail
    go_ret
    exact ⟨ret_int hV.out.symm, rfl⟩
  · have hV : Hid (F = 1) := by rw [Hid, hF.out, if_pos (by simp [stepB, h1]; simpa using h2)]
    clear hF
    go_wp2_with fail
    go_ret
    exact ⟨ret_int hV.out.symm, rfl⟩

theorem rowAt_any (w0 : World) (f g b q : Nat) (O : Grd) (T : Int → Int → Bool) (od : List Int) (A : Option Addr) (n cc lo : Nat) (L : List Sid) (y : Int) (w : World) (h : RowI w0 f g b q O T od w) (hod : od.length = O.wide + 1)
    (hL : Sl w lo A L) (hn : L.length = n) (hlo : b < lo ∧ q < lo ∧ f < lo) (hln : n ≤ 100000) (hbd : ∀ s ∈ L, bdP s.a ∧ bdP s.b) (hy : O.y ≤ y ∧ y < O.y + O.high) :
    Calls Tryz.prog 69 #[.pointer (some ⟨f, 0, none⟩), .slice A n cc, .int .i64 y] w fun e w' => e = .returned (.tuple #[]) ∧ Gr2 w w' b q ∧ ∃ od', RowI w0 f g b q O (fun u v => T u v || rowT O y L u v) od' w' ∧ od'.length = O.wide + 1 := by
  obtain ⟨O', h1, ⟨e1, e2, e3, e4, e5⟩, h3, h4⟩ := h
  refine (row_any f g b q O' od A n cc lo L y w h1 (by rw [hod, e4]) hL hn hlo hln hbd (by rw [e3, e5]; exact hy)).mono ?_
  rintro e w' ⟨rfl, od', ⟨O2, k1, ⟨f1, f2, f3, f4, f5⟩, k3, k4⟩, hl⟩
  have hT : rowT O' y L = rowT O y L := by
    funext u v
    unfold rowT inCol
    rw [e1, e2, e4]
  exact ⟨rfl, k4, od', ⟨O2, k1, ⟨f1.trans e1, f2.trans e2, f3.trans e3, f4.trans e4, f5.trans e5⟩, fun u v => by rw [k3, h3, hT, Bool.or_assoc], h4.trans k4⟩, by rw [hl, e4]⟩

theorem flatK_all {α : Type} (ls : List (List α)) : flatK ls ls.length = ls.flatten := by unfold flatK; rw [List.take_length]

theorem sl_ptD {w : World} {A : Option Addr} {l : List Pt} (h : Sl w 0 A l) {k : Nat} (hk : k < l.length) : ∃ g o, A = some ⟨g, o, none⟩ ∧ w.cell? ⟨g, o + k * 2, none⟩ = some (.int .i64 (l.getD k default).x) ∧ w.cell? ⟨g, o + k * 2 + 1, none⟩ = some (.int .i64 (l.getD k default).y) := by
  obtain ⟨g, o, e, -, -, hc⟩ := h.pt (by omega)
  have e2 : l.getD k default = l[k] := by simp [List.getD, hk]
  rw [e2]
  exact ⟨g, o, e, (hc k hk).1, (hc k hk).2⟩

set_option maxHeartbeats 8000000 in
set_option maxRecDepth 100000 in
theorem filled_any (A : Option Addr) (c : Nat) (rs : List (List Pt)) (step : Int) (w : World) (hl : Sl w 0 A rs) (hs : (flatK rs rs.length).length ≤ 100000) (hst : -1000000 ≤ step ∧ step ≤ 1000000) :
    Calls Tryz.prog 12 #[.slice A rs.length c, .int .i64 step] w fun e w' => CelsOutF w w' (fillE (regF rs) rs step) step (fillS rs step) e := by
  have hm := hl.1
  unfold maxLen at hm
  have hCR := hide fun W (hl : Sl W 0 A rs) => checkRegion_any A c rs W hl (by omega)
  obtain ⟨F, hF⟩ : ∃ F, F = regF rs := ⟨_, rfl⟩
  rw [← hF] at hCR ⊢
  have hSF := hide fun W => stepFaultP_any step W
  rcases hz : (F == 0) with _ | _
  · have hne : F ≠ 0 := by simpa using hz
    have hE : Hid (ResC (fillE F rs step) step (fillS rs step) ⟨0, 0, 0, []⟩ F) := .inl ⟨by unfold fillE; rw [if_pos hne]; exact hne, rfl, by unfold fillE; rw [if_pos hne]⟩
    have hz' : (F != 0) = true := by simp [hne]
    clear hF hne
    go_enter Tryz.func12, Tryz.ntmps12
    go_upto_region 1 with fail
    obtain ⟨w4, hw4⟩ : ∃ x, x = (w).alloc (.cells [.int .i64 0, .int .i64 0, .int .i64 0, .slice none 0 0].toArray 34) := ⟨_, rfl⟩
    have hg4 : (w).grownBy w4 none := by rw [hw4]; exact gr_alloc (World.grownBy.refl _ _) _
    have hb4 : Box w4 (w).heap.size 34 [.int .i64 0, .int .i64 0, .int .i64 0, .slice none 0 0] := by rw [hw4]; exact Box.new _ _ _
    have hxs4 := hb4.lt
    rw [← hw4]
    clear hw4
    obtain ⟨x4, hx4⟩ : ∃ x, x = (w).heap.size := ⟨_, rfl⟩
    rw [← hx4] at hb4 hxs4 ⊢
    have hxl4 : (w).heap.size ≤ x4 := by omega
    clear hx4
    go_wp2_with fail
    refine (hCR.out _ (hl.pure hg4)).mono ?_
    rintro e w1 ⟨rfl, hg1⟩
    have hgw := hg4.t hg1
    replace hb4 := hb4.pure hg1
    clear hg4 hg1 hCR hSF hxs4
    obtain ⟨⟨d0, f0⟩, ⟨d1, f1⟩, ⟨d2, f2⟩, ⟨d3, f3⟩⟩ := box4_c hb4
    go_wp2_with fail
    clear d0 d1 d2 d3 f0 f1 f2 f3
    have hgf := gr_new hgw (set4_gr (w := w1) (g := x4) (.int .i64 0) (.int .i64 0) (.int .i64 0) (.slice none 0 0)) hxl4
    have hbf := box_set4 hb4 (.int .i64 0) (.int .i64 0) (.int .i64 0) (.slice none 0 0)
    generalize (((w1.setCell ⟨x4, 0, none⟩ (.int .i64 0)).setCell ⟨x4, 1, none⟩ (.int .i64 0)).setCell ⟨x4, 2, none⟩ (.int .i64 0)).setCell ⟨x4, 3, none⟩ (.slice none 0 0) = wf at *
    obtain ⟨⟨d0, f0⟩, ⟨d1, f1⟩, ⟨d2, f2⟩, ⟨d3, f3⟩⟩ := box4_c hbf
    exact bodyPost_ret (v := .tuple #[.agg #[.int .i64 0, .int .i64 0, .int .i64 0, .slice none 0 0], .int .i64 F]) (by simp [results, Tryz.results12, go_sem, d0, d1, d2, d3, f0, f1, f2, f3]) rfl ⟨⟨0, 0, 0, []⟩, F, none, 0, rfl, hE.out, Own.nil _ _ _, hgf⟩
  have hF0 : F = 0 := by simpa using hz
  subst hF0
  clear hz
  have hok := hide (rok_of hF.symm)
  clear hF
  rcases hsb : stepB step with _ | _
  rotate_left
  · have hE : Hid (ResC (fillE 0 rs step) step (fillS rs step) ⟨0, 0, 0, []⟩ 1) := .inl ⟨by unfold fillE; rw [if_neg (by simp), if_pos hsb]; simp, rfl, by unfold fillE; rw [if_neg (by simp), if_pos hsb]⟩
    rw [hsb] at hSF
    clear hsb
    go_enter Tryz.func12, Tryz.ntmps12
    go_upto_region 1 with fail
    obtain ⟨w4, hw4⟩ : ∃ x, x = (w).alloc (.cells [.int .i64 0, .int .i64 0, .int .i64 0, .slice none 0 0].toArray 34) := ⟨_, rfl⟩
    have hg4 : (w).grownBy w4 none := by rw [hw4]; exact gr_alloc (World.grownBy.refl _ _) _
    have hb4 : Box w4 (w).heap.size 34 [.int .i64 0, .int .i64 0, .int .i64 0, .slice none 0 0] := by rw [hw4]; exact Box.new _ _ _
    have hxs4 := hb4.lt
    rw [← hw4]
    clear hw4
    obtain ⟨x4, hx4⟩ : ∃ x, x = (w).heap.size := ⟨_, rfl⟩
    rw [← hx4] at hb4 hxs4 ⊢
    have hxl4 : (w).heap.size ≤ x4 := by omega
    clear hx4
    go_wp2_with fail
    refine (hCR.out _ (hl.pure hg4)).mono ?_
    rintro e w1 ⟨rfl, hg1⟩
    have hgw := hg4.t hg1
    replace hb4 := hb4.pure hg1
    clear hg4 hg1 hCR hxs4
    go_wp2_with fail
    refine (hSF.out w1).mono ?_
    rintro e _ ⟨rfl, rfl⟩
    simp only [if_true]
    obtain ⟨⟨d0, f0⟩, ⟨d1, f1⟩, ⟨d2, f2⟩, ⟨d3, f3⟩⟩ := box4_c hb4
    go_wp2_with fail
    clear d0 d1 d2 d3 f0 f1 f2 f3
    have hgf := gr_new hgw (set4_gr (w := w1) (g := x4) (.int .i64 0) (.int .i64 0) (.int .i64 0) (.slice none 0 0)) hxl4
    have hbf := box_set4 hb4 (.int .i64 0) (.int .i64 0) (.int .i64 0) (.slice none 0 0)
    generalize (((w1.setCell ⟨x4, 0, none⟩ (.int .i64 0)).setCell ⟨x4, 1, none⟩ (.int .i64 0)).setCell ⟨x4, 2, none⟩ (.int .i64 0)).setCell ⟨x4, 3, none⟩ (.slice none 0 0) = wf at *
    obtain ⟨⟨d0, f0⟩, ⟨d1, f1⟩, ⟨d2, f2⟩, ⟨d3, f3⟩⟩ := box4_c hbf
    exact bodyPost_ret (v := .tuple #[.agg #[.int .i64 0, .int .i64 0, .int .i64 0, .slice none 0 0], .int .i64 1]) (by simp [results, Tryz.results12, go_sem, d0, d1, d2, d3, f0, f1, f2, f3]) rfl ⟨⟨0, 0, 0, []⟩, 1, none, 0, rfl, hE.out, Own.nil _ _ _, hgf⟩
  have hsp := step_pos hsb
  have hE0 : Hid (fillE 0 rs step = if rs.flatten.length ≠ 0 ∧ bigB rs.flatten step = true then 12 else 0) := by rw [Hid, fillE, if_neg (by simp), if_neg (by simp [hsb])]
  rw [hsb] at hSF
  replace hsb := hide hsb
  have hCat := hide fun W (h : Sl W 0 A rs) => concatRings_any A c rs W h (by omega)
  rw [flatK_all] at hCat hs
  have hbdf : Hid (∀ k, k < rs.flatten.length → bdP (rs.flatten.getD k default)) := fun k hk => by
    have e : rs.flatten.getD k default = rs.flatten[k] := by rw [List.getD_eq_getElem?_getD, List.getElem?_eq_getElem hk]; rfl
    rw [e]
    obtain ⟨r, hr, hq⟩ := List.mem_flatten.1 (List.getElem_mem hk)
    exact hok.out.bd r hr _ hq
  have hSd := hide fun W (h : Sl W 0 A rs) => sidesG_any A c rs W h (fun r hr => by have := (hok.out.len r hr).1; omega) (by rw [flatK_all]; exact hs)
  obtain ⟨L, hL⟩ : ∃ L, L = rs.flatten := ⟨_, rfl⟩
  rw [← hL] at hCat hs hbdf hE0
  replace hL := hide hL
  go_enter Tryz.func12, Tryz.ntmps12
  go_upto_region 1 with fail
  obtain ⟨w4, hw4⟩ : ∃ x, x = (w).alloc (.cells [.int .i64 0, .int .i64 0, .int .i64 0, .slice none 0 0].toArray 34) := ⟨_, rfl⟩
  have hg4 : (w).grownBy w4 none := by rw [hw4]; exact gr_alloc (World.grownBy.refl _ _) _
  have hb4 : Box w4 (w).heap.size 34 [.int .i64 0, .int .i64 0, .int .i64 0, .slice none 0 0] := by rw [hw4]; exact Box.new _ _ _
  have hxs4 := hb4.lt
  rw [← hw4]
  clear hw4
  obtain ⟨x4, hx4⟩ : ∃ x, x = (w).heap.size := ⟨_, rfl⟩
  rw [← hx4] at hb4 hxs4 ⊢
  have hxl4 : (w).heap.size ≤ x4 := by omega
  clear hx4
  go_wp2_with fail
  refine (hCR.out _ (hl.pure hg4)).mono ?_
  rintro e w1 ⟨rfl, hg1⟩
  have hgw := hg4.t hg1
  replace hb4 := hb4.pure hg1
  clear hg4 hg1 hCR hxs4
  go_wp2_with fail
  refine (hSF.out w1).mono ?_
  rintro e _ ⟨rfl, rfl⟩
  simp only [Bool.false_eq_true, if_false]
  clear hSF
  go_wp2_with fail
  refine (hCat.out w1 (hl.pure hgw)).mono ?_
  rintro e w2 ⟨A2, c2, rfl, hO2, hg2⟩
  have hsl2 := hO2.sl.mono (Nat.zero_le _)
  replace hgw := hgw.t hg2
  replace hb4 := hb4.pure hg2
  clear hCat hO2 hg2
  rcases h0 : ((L.length : Int) == 0) with _ | _
  rotate_left
  · have hL0 : L = [] := List.eq_nil_of_length_eq_zero (by have := beq_iff_eq.1 h0; omega)
    have hE : Hid (ResC (fillE 0 rs step) step (fillS rs step) ⟨step, 0, 0, []⟩ 0) := .inr ⟨by rw [hE0.out, if_neg (by simp [hL0])], .inl ⟨fun x y => by
      have hrs : rs = [] := by
        rcases rs with _ | ⟨r, rs⟩
        · rfl
        · exfalso
          have h1 := (hok.out.len r List.mem_cons_self).1
          have h2 := congrArg List.length (hL.out.symm.trans hL0)
          simp at h2
          rw [h2.1] at h1; simp at h1
      rw [hrs]; rfl, rfl, rfl⟩⟩
    clear hE0 hL0
    obtain ⟨⟨d0, f0⟩, ⟨d1, f1⟩, ⟨d2, f2⟩, ⟨d3, f3⟩⟩ := box4_c hb4
    go_wp2_with fail
    clear d0 d1 d2 d3 f0 f1 f2 f3
    have hgf := gr_new hgw (set4_gr (w := w2) (g := x4) (.int .i64 step) (.int .i64 0) (.int .i64 0) (.slice none 0 0)) hxl4
    have hbf := box_set4 hb4 (.int .i64 step) (.int .i64 0) (.int .i64 0) (.slice none 0 0)
    generalize (((w2.setCell ⟨x4, 0, none⟩ (.int .i64 step)).setCell ⟨x4, 1, none⟩ (.int .i64 0)).setCell ⟨x4, 2, none⟩ (.int .i64 0)).setCell ⟨x4, 3, none⟩ (.slice none 0 0) = wf at *
    obtain ⟨⟨d0, f0⟩, ⟨d1, f1⟩, ⟨d2, f2⟩, ⟨d3, f3⟩⟩ := box4_c hbf
    exact bodyPost_ret (v := .tuple #[.agg #[.int .i64 step, .int .i64 0, .int .i64 0, .slice none 0 0], .int .i64 0]) (by simp [results, Tryz.results12, go_sem, d0, d1, d2, d3, f0, f1, f2, f3]) rfl ⟨⟨step, 0, 0, []⟩, 0, none, 0, rfl, hE.out, Own.nil _ _ _, hgf⟩
  have hLp : 0 < L.length := by
    apply Nat.pos_of_ne_zero
    intro e
    rw [e] at h0; simp at h0
  obtain ⟨ga, oa, rfl, p0, p1⟩ := sl_ptD hsl2 hLp
  rw [Nat.zero_mul, Nat.add_zero] at p0 p1
  have hsz2 := hgw.size
  go_upto_region 10 with fail
  go_cut [9, 10] from 39 to 45 (fun s9 s10 wx => CR2 w2 (L.getD 0 default) (L.getD 0 default) s9 s10 wx)
  case first =>
    generalize L.getD 0 default = P at *
    refine wp_region_tree (fun wx => w2.grownBy wx none) [2, 2, 1, 2, 2, 1, 0, 0, 0, 0] (.bl 0 (.bl 1 (.bl 2 (.bl 3 (.bl 4 (.bl 5 (.alt (.ef 6 (.ef 7 (.ef 8 (.ef 9 .done)))) (.ef 7 (.ef 6 (.ef 8 (.ef 9 .done))))))))))) (by kernel_rfl) (by kernel_rfl) (gr_drew (World.grownBy.refl _ _)) ?_
    obtain ⟨W1, hW1⟩ : ∃ x, x = (w2).drew := ⟨_, rfl⟩
    rw [← hW1]
    have hgW1 : (w2).grownBy W1 none := by rw [hW1]; exact gr_drew (World.grownBy.refl _ _)
    clear hW1
    have hcur := hgW1
    refine tree_p rfl rfl rfl rfl _ rfl (by simp) (fun K hK => ?_)
    apply Exists.intro
    refine ⟨fun wq K' hK' => ?_, ?_⟩
    · go_wp2_with fail
      exact hK'
    go_simp
    refine hK _ ?_
    clear hK K
    refine tree_p rfl rfl rfl rfl _ rfl (by simp) (fun K hK => ?_)
    apply Exists.intro
    refine ⟨fun wq K' hK' => ?_, ?_⟩
    · go_wp2_with fail
      exact hK'
    go_simp
    refine hK _ ?_
    clear hK K
    refine tree_b rfl rfl rfl rfl _ rfl (by simp) (fun K hK => ?_)
    apply Exists.intro
    refine ⟨fun wq hq K' hK' => ?_, ?_⟩
    · have q1 := hq.k p0
      have q2 := hq.k p1
      go_wp2_with fail
      exact hK'
    go_simp
    refine hK _ ?_
    clear hK K
    refine tree_p rfl rfl rfl rfl _ rfl (by simp) (fun K hK => ?_)
    apply Exists.intro
    refine ⟨fun wq K' hK' => ?_, ?_⟩
    · go_wp2_with fail
      exact hK'
    go_simp
    refine hK _ ?_
    clear hK K
    refine tree_p rfl rfl rfl rfl _ rfl (by simp) (fun K hK => ?_)
    apply Exists.intro
    refine ⟨fun wq K' hK' => ?_, ?_⟩
    · go_wp2_with fail
      exact hK'
    go_simp
    refine hK _ ?_
    clear hK K
    refine tree_b rfl rfl rfl rfl _ rfl (by simp) (fun K hK => ?_)
    apply Exists.intro
    refine ⟨fun wq hq K' hK' => ?_, ?_⟩
    · have q1 := hq.k p0
      have q2 := hq.k p1
      go_wp2_with fail
      exact hK'
    go_simp
    refine hK _ ?_
    clear hK K
    refine tree_alt ?_ ?_
    · refine tree_e rfl rfl (fun K hK => ?_)
      go_wp2_with fail
      try go_simp
      refine hK _ _ (gr_alloc hcur _) ?_
      clear hK K
      obtain ⟨w6, hw6⟩ : ∃ x, x = (W1).alloc (.cells #[.int .i64 0, .int .i64 0] 30) := ⟨_, rfl⟩
      have hg6 : (W1).grownBy w6 none := by rw [hw6]; exact gr_alloc (World.grownBy.refl _ _) _
      have b6 : Box w6 (W1).heap.size 30 [.int .i64 0, .int .i64 0] := by rw [hw6]; exact Box.new _ _ _
      rw [← hw6]
      clear hw6
      have hxs6 := hcur.size
      obtain ⟨x6, hx6⟩ : ∃ x, x = (W1).heap.size := ⟨_, rfl⟩
      rw [← hx6] at b6 hxs6 ⊢
      replace hcur := gr_trans hcur hg6
      clear hx6 hg6
      refine tree_e rfl rfl (fun K hK => ?_)
      go_wp2_with fail
      try go_simp
      refine hK _ _ (gr_alloc hcur _) ?_
      clear hK K
      obtain ⟨w7, hw7⟩ : ∃ x, x = (w6).alloc (.cells #[.int .i64 0, .int .i64 0] 30) := ⟨_, rfl⟩
      have hg7 : (w6).grownBy w7 none := by rw [hw7]; exact gr_alloc (World.grownBy.refl _ _) _
      have b7 : Box w7 (w6).heap.size 30 [.int .i64 0, .int .i64 0] := by rw [hw7]; exact Box.new _ _ _
      rw [← hw7]
      clear hw7
      have hxs7 := hcur.size
      obtain ⟨x7, hx7⟩ : ∃ x, x = (w6).heap.size := ⟨_, rfl⟩
      rw [← hx7] at b7 hxs7 ⊢
      have hnb : x6 ≠ x7 := by have := b6.lt; omega
      replace b6 := b6.pure hg7
      replace hcur := gr_trans hcur hg7
      clear hx7 hg7
      refine tree_e rfl rfl (fun K hK => ?_)
      obtain ⟨⟨k0, f0⟩, ⟨k1, f1⟩⟩ := box2_c b6
      go_wp2_with fail
      try go_simp
      refine hK _ _ (gr_new hcur (set2P_gr _ _) hxs6) ?_
      clear hK K
      obtain ⟨w8, hw8⟩ : ∃ x, x = ((w7).setCell ⟨x6, 0, none⟩ (.int .i64 P.x)).setCell ⟨x6, 1, none⟩ (.int .i64 P.y) := ⟨_, rfl⟩
      have hg8 : (w7).grownBy w8 (some x6) := by rw [hw8]; exact set2P_gr _ _
      replace b6 := box_set2P b6 (.int .i64 P.x) (.int .i64 P.y)
      rw [← hw8] at b6
      rw [← hw8]
      clear hw8
      replace b7 := b7.gr hg8 (by intro e; injection e with e; omega)
      replace hcur := gr_new hcur hg8 hxs6
      clear hg8
      refine tree_e0 (by kernel_rfl) rfl rfl (fun K hK => ?_)
      obtain ⟨⟨k0, f0⟩, ⟨k1, f1⟩⟩ := box2_c b7
      go_wp2_with fail
      try go_simp
      refine hK _ _ trivial ?_
      clear hK K
      obtain ⟨w9, hw9⟩ : ∃ x, x = ((w8).setCell ⟨x7, 0, none⟩ (.int .i64 P.x)).setCell ⟨x7, 1, none⟩ (.int .i64 P.y) := ⟨_, rfl⟩
      have hg9 : (w8).grownBy w9 (some x7) := by rw [hw9]; exact set2P_gr _ _
      replace b7 := box_set2P b7 (.int .i64 P.x) (.int .i64 P.y)
      rw [← hw9] at b7
      rw [← hw9]
      clear hw9
      replace b6 := b6.gr hg9 (by intro e; injection e with e; omega)
      replace hcur := gr_new hcur hg9 hxs7
      clear hg9
      refine tree_done ?_
      go_wp2_with fail
      go_meet
      exact ⟨x6, x7, rfl, rfl, b6, b7, by omega, hxs6, hxs7, hcur⟩
    · refine tree_e rfl rfl (fun K hK => ?_)
      go_wp2_with fail
      try go_simp
      refine hK _ _ (gr_alloc hcur _) ?_
      clear hK K
      obtain ⟨w7, hw7⟩ : ∃ x, x = (W1).alloc (.cells #[.int .i64 0, .int .i64 0] 30) := ⟨_, rfl⟩
      have hg7 : (W1).grownBy w7 none := by rw [hw7]; exact gr_alloc (World.grownBy.refl _ _) _
      have b7 : Box w7 (W1).heap.size 30 [.int .i64 0, .int .i64 0] := by rw [hw7]; exact Box.new _ _ _
      rw [← hw7]
      clear hw7
      have hxs7 := hcur.size
      obtain ⟨x7, hx7⟩ : ∃ x, x = (W1).heap.size := ⟨_, rfl⟩
      rw [← hx7] at b7 hxs7 ⊢
      replace hcur := gr_trans hcur hg7
      clear hx7 hg7
      refine tree_e rfl rfl (fun K hK => ?_)
      go_wp2_with fail
      try go_simp
      refine hK _ _ (gr_alloc hcur _) ?_
      clear hK K
      obtain ⟨w6, hw6⟩ : ∃ x, x = (w7).alloc (.cells #[.int .i64 0, .int .i64 0] 30) := ⟨_, rfl⟩
      have hg6 : (w7).grownBy w6 none := by rw [hw6]; exact gr_alloc (World.grownBy.refl _ _) _
      have b6 : Box w6 (w7).heap.size 30 [.int .i64 0, .int .i64 0] := by rw [hw6]; exact Box.new _ _ _
      rw [← hw6]
      clear hw6
      have hxs6 := hcur.size
      obtain ⟨x6, hx6⟩ : ∃ x, x = (w7).heap.size := ⟨_, rfl⟩
      rw [← hx6] at b6 hxs6 ⊢
      have hnb : x7 ≠ x6 := by have := b7.lt; omega
      replace b7 := b7.pure hg6
      replace hcur := gr_trans hcur hg6
      clear hx6 hg6
      refine tree_e rfl rfl (fun K hK => ?_)
      obtain ⟨⟨k0, f0⟩, ⟨k1, f1⟩⟩ := box2_c b6
      go_wp2_with fail
      try go_simp
      refine hK _ _ (gr_new hcur (set2P_gr _ _) hxs6) ?_
      clear hK K
      obtain ⟨w8, hw8⟩ : ∃ x, x = ((w6).setCell ⟨x6, 0, none⟩ (.int .i64 P.x)).setCell ⟨x6, 1, none⟩ (.int .i64 P.y) := ⟨_, rfl⟩
      have hg8 : (w6).grownBy w8 (some x6) := by rw [hw8]; exact set2P_gr _ _
      replace b6 := box_set2P b6 (.int .i64 P.x) (.int .i64 P.y)
      rw [← hw8] at b6
      rw [← hw8]
      clear hw8
      replace b7 := b7.gr hg8 (by intro e; injection e with e; omega)
      replace hcur := gr_new hcur hg8 hxs6
      clear hg8
      refine tree_e0 (by kernel_rfl) rfl rfl (fun K hK => ?_)
      obtain ⟨⟨k0, f0⟩, ⟨k1, f1⟩⟩ := box2_c b7
      go_wp2_with fail
      try go_simp
      refine hK _ _ trivial ?_
      clear hK K
      obtain ⟨w9, hw9⟩ : ∃ x, x = ((w8).setCell ⟨x7, 0, none⟩ (.int .i64 P.x)).setCell ⟨x7, 1, none⟩ (.int .i64 P.y) := ⟨_, rfl⟩
      have hg9 : (w8).grownBy w9 (some x7) := by rw [hw9]; exact set2P_gr _ _
      replace b7 := box_set2P b7 (.int .i64 P.x) (.int .i64 P.y)
      rw [← hw9] at b7
      rw [← hw9]
      clear hw9
      replace b6 := b6.gr hg9 (by intro e; injection e with e; omega)
      replace hcur := gr_new hcur hg9 hxs7
      clear hg9
      refine tree_done ?_
      go_wp2_with fail
      go_meet
      exact ⟨x6, x7, rfl, rfl, b6, b7, by omega, hxs6, hxs7, hcur⟩
  case rest =>
  obtain ⟨x9, x10, rfl, rfl, b9, b10, hxn, hx9, hx10, hg10⟩ := hcut
  clear p0 p1
  generalize hwq : wc = w3 at *
  clear hwq
  have hlt4 := hb4.lt
  have hx94 : x9 ≠ x4 ∧ x10 ≠ x4 := by omega
  have hbx : Hid (Box w3 x4 34 [.int .i64 0, .int .i64 0, .int .i64 0, .slice none 0 0]) := hb4.pure hg10
  have hg3 := hgw.t hg10
  have hslg := hide hsl2
  clear hb4 hsl2
  go_wp2_with fail
  go_loopw [47] (fun i wr => ∃ k : Nat, k ≤ L.length ∧ i = .int .i64 k ∧ Box wr x9 30 [.int .i64 (lowK Pt.x L k), .int .i64 (lowK Pt.y L k)] ∧ Box wr x10 30 [.int .i64 (hiK Pt.x L k), .int .i64 (hiK Pt.y L k)] ∧ Box wr x4 34 [.int .i64 0, .int .i64 0, .int .i64 0, .slice none 0 0] ∧ w2.grownBy wr none) (fun i _ => L.length - (intOf i).toNat)
  case atStart => exact ⟨0, Nat.zero_le _, rfl, b9, b10, hbx.out, hg10⟩
  case round =>
    clear b9 b10 hbx hg10
    obtain ⟨k, hk, rfl, b9, b10, hb4, hgr⟩ := hrel
    by_cases hlt : k < L.length
    · obtain ⟨gb, ob, e1, q0, q1⟩ := sl_ptD (hslg.out.pure hgr) hlt
      cases e1
      have n1 : Hid (lowK Pt.x L (k + 1) = min (lowK Pt.x L k) (L.getD k default).x) := rfl
      have n2 : Hid (lowK Pt.y L (k + 1) = min (lowK Pt.y L k) (L.getD k default).y) := rfl
      have n3 : Hid (hiK Pt.x L (k + 1) = max (hiK Pt.x L k) (L.getD k default).x) := rfl
      have n4 : Hid (hiK Pt.y L (k + 1) = max (hiK Pt.y L k) (L.getD k default).y) := rfl
      generalize L.getD k default = P at *
      generalize lowK Pt.x L k = z1 at *
      generalize lowK Pt.y L k = z2 at *
      generalize hiK Pt.x L k = z3 at *
      generalize hiK Pt.y L k = z4 at *
      go_upto_region 14 with fail
      obtain ⟨w12, hw12⟩ : ∃ x, x = (wr).alloc (.cells [.int .i64 P.x, .int .i64 P.y].toArray 30) := ⟨_, rfl⟩
      have hg12 : (wr).grownBy w12 none := by rw [hw12]; exact gr_alloc (World.grownBy.refl _ _) _
      have hb12 : Box w12 (wr).heap.size 30 [.int .i64 P.x, .int .i64 P.y] := by rw [hw12]; exact Box.new _ _ _
      have hxs12 := hb12.lt
      rw [← hw12]
      clear hw12
      obtain ⟨x12, hx12⟩ : ∃ x, x = (wr).heap.size := ⟨_, rfl⟩
      rw [← hx12] at hb12 hxs12 ⊢
      have hxl12 : (wr).heap.size ≤ x12 := by omega
      clear hx12
      have hx12 : x9 ≠ x12 ∧ x10 ≠ x12 := by have := b9.lt; have := b10.lt; omega
      replace b9 := b9.pure hg12
      replace b10 := b10.pure hg12
      replace hb4 := hb4.pure hg12
      replace hgr := hgr.t hg12
      clear q0 q1 hg12 hxs12 hxl12
      obtain ⟨⟨k0, f0⟩, ⟨k1, f1⟩⟩ := box2_c b9
      obtain ⟨⟨j0, -⟩, ⟨j1, -⟩⟩ := box2_c hb12
      go_upto_region 15 with fail
      clear k0 k1 f0 f1 j0 j1
      have hgs := set2P_gr (w := w12) (g := x9) (.int .i64 (min z1 P.x)) (.int .i64 (min z2 P.y))
      replace b9 := box_set2P b9 (.int .i64 (min z1 P.x)) (.int .i64 (min z2 P.y))
      replace b10 := b10.gr hgs (by intro e; injection e with e; exact hxn e)
      replace hb4 := hb4.gr hgs (by intro e; injection e with e; exact hx94.1 e)
      replace hb12 := hb12.gr hgs (by intro e; injection e with e; exact hx12.1 e)
      replace hgr := gr_new hgr hgs hx9
      generalize (w12.setCell ⟨x9, 0, none⟩ (.int .i64 (min z1 P.x))).setCell ⟨x9, 1, none⟩ (.int .i64 (min z2 P.y)) = w14 at *
      clear hgs
      obtain ⟨⟨k0, f0⟩, ⟨k1, f1⟩⟩ := box2_c b10
      obtain ⟨⟨j0, -⟩, ⟨j1, -⟩⟩ := box2_c hb12
      go_upto_region 16 with fail
      clear k0 k1 f0 f1 j0 j1
      have hgs := set2P_gr (w := w14) (g := x10) (.int .i64 (max z3 P.x)) (.int .i64 (max z4 P.y))
      replace b10 := box_set2P b10 (.int .i64 (max z3 P.x)) (.int .i64 (max z4 P.y))
      replace b9 := b9.gr hgs (by intro e; injection e with e; exact hxn e.symm)
      replace hb4 := hb4.gr hgs (by intro e; injection e with e; exact hx94.2 e)
      replace hgr := gr_new hgr hgs hx10
      generalize (w14.setCell ⟨x10, 0, none⟩ (.int .i64 (max z3 P.x))).setCell ⟨x10, 1, none⟩ (.int .i64 (max z4 P.y)) = w15 at *
      clear hgs hb12
      go_wp2_with fail
      (go_roundw; (case rel => exact ⟨k + 1, by omega, by go_num, by rw [n1.out, n2.out]; exact b9, by rw [n3.out, n4.out]; exact b10, hb4, hgr⟩); (case measure => simp [intOf]; omega))
    · obtain rfl : k = L.length := by omega
      clear hlt hk h0
      have hbf : ∀ p ∈ L, bdP p := fun p hp => by
        obtain ⟨i, hi, rfl⟩ := List.getElem_of_mem hp
        have := hbdf.out i hi
        rwa [List.getD_eq_getElem?_getD, List.getElem?_eq_getElem hi] at this
      obtain ⟨lx, hlx⟩ : ∃ z, z = lowK Pt.x L L.length := ⟨_, rfl⟩
      obtain ⟨ly, hly⟩ : ∃ z, z = lowK Pt.y L L.length := ⟨_, rfl⟩
      obtain ⟨hx, hhx⟩ : ∃ z, z = hiK Pt.x L L.length := ⟨_, rfl⟩
      obtain ⟨hy, hhy⟩ : ∃ z, z = hiK Pt.y L L.length := ⟨_, rfl⟩
      rw [← hlx, ← hly] at b9
      rw [← hhx, ← hhy] at b10
      replace hlx : Hid (lx = lowF Pt.x L) := hlx
      replace hly : Hid (ly = lowF Pt.y L) := hly
      replace hhx : Hid (hx = hiF Pt.x L) := hhx
      replace hhy : Hid (hy = hiF Pt.y L) := hhy
      have hlxb : -100000 ≤ lx ∧ lx ≤ 100000 := by
        obtain ⟨p, hp, e⟩ := lowF_mem Pt.x hLp; rw [hlx.out, e]; exact (hbf p hp).1
      have hlyb : -100000 ≤ ly ∧ ly ≤ 100000 := by
        obtain ⟨p, hp, e⟩ := lowF_mem Pt.y hLp; rw [hly.out, e]; exact (hbf p hp).2
      have hhxb : -100000 ≤ hx ∧ hx ≤ 100000 := by
        obtain ⟨p, hp, e⟩ := hiF_mem Pt.x hLp; rw [hhx.out, e]; exact (hbf p hp).1
      have hhyb : -100000 ≤ hy ∧ hy ≤ 100000 := by
        obtain ⟨p, hp, e⟩ := hiF_mem Pt.y hLp; rw [hhy.out, e]; exact (hbf p hp).2
      have hwx := hide (wide_pos Pt.x hLp hsp.1)
      have hwy := hide (wide_pos Pt.y hLp hsp.1)
      have hf1 := hide (fun W => floor_any lx step W (by omega) (by omega))
      have hf2 := hide (fun W => floor_any ly step W (by omega) (by omega))
      have hf3 := hide (fun W => floor_any hx step W (by omega) (by omega))
      have hf4 := hide (fun W => floor_any hy step W (by omega) (by omega))
      have hd1 := div_bd hsp.1 hlxb.1 hlxb.2 (by omega)
      have hd2 := div_bd hsp.1 hlyb.1 hlyb.2 (by omega)
      have hd3 := div_bd hsp.1 hhxb.1 hhxb.2 (by omega)
      have hd4 := div_bd hsp.1 hhyb.1 hhyb.2 (by omega)
      obtain ⟨x0, hx0⟩ : ∃ z, z = lx / step := ⟨_, rfl⟩
      obtain ⟨y0, hy0⟩ : ∃ z, z = ly / step := ⟨_, rfl⟩
      obtain ⟨x1, hx1⟩ : ∃ z, z = hx / step := ⟨_, rfl⟩
      obtain ⟨y1, hy1⟩ : ∃ z, z = hy / step := ⟨_, rfl⟩
      rw [← hx0] at hf1 hd1
      rw [← hy0] at hf2 hd2
      rw [← hx1] at hf3 hd3
      rw [← hy1] at hf4 hd4
      have hww : Hid (wideF Pt.x L step = x1 - x0 + 1) := by rw [Hid, wideF, hx1, hx0, hlx.out, hhx.out]
      have hwt : Hid (wideF Pt.y L step = y1 - y0 + 1) := by rw [Hid, wideF, hy1, hy0, hly.out, hhy.out]
      have hBig : Hid (bigB L step = (decide (200 < x1 - x0 + 1) || decide (200 < y1 - y0 + 1))) := by rw [Hid, bigB, hww.out, hwt.out]
      have hwx' : 1 ≤ x1 - x0 + 1 := by rw [← hww.out]; exact hwx.out
      have hwy' : 1 ≤ y1 - y0 + 1 := by rw [← hwt.out]; exact hwy.out
      have hx0' : Hid (x0 = lowF Pt.x L / step) := by rw [Hid, hx0, hlx.out]
      have hy0' : Hid (y0 = lowF Pt.y L / step) := by rw [Hid, hy0, hly.out]
      have hx1' : Hid (x1 = hiF Pt.x L / step) := by rw [Hid, hx1, hhx.out]
      have hy1' : Hid (y1 = hiF Pt.y L / step) := by rw [Hid, hy1, hhy.out]
      clear hx0 hy0 hx1 hy1 hlx hly hhx hhy hww hwt hwx hwy hbf hlxb hlyb hhxb hhyb
      replace hgr := hgw.t hgr
      clear hgw hg3
      replace hf1 := hide (fun W => (hf1.out W).mono (fun e w' h => (⟨h.1, by rw [← h.2]; exact World.grownBy.refl _ _⟩ : e = .returned (.int .i64 x0) ∧ W.grownBy w' none)))
      replace hf2 := hide (fun W => (hf2.out W).mono (fun e w' h => (⟨h.1, by rw [← h.2]; exact World.grownBy.refl _ _⟩ : e = .returned (.int .i64 y0) ∧ W.grownBy w' none)))
      replace hf3 := hide (fun W => (hf3.out W).mono (fun e w' h => (⟨h.1, by rw [← h.2]; exact World.grownBy.refl _ _⟩ : e = .returned (.int .i64 x1) ∧ W.grownBy w' none)))
      replace hf4 := hide (fun W => (hf4.out W).mono (fun e w' h => (⟨h.1, by rw [← h.2]; exact World.grownBy.refl _ _⟩ : e = .returned (.int .i64 y1) ∧ W.grownBy w' none)))
      obtain ⟨⟨k0, -⟩, ⟨k1, -⟩⟩ := box2_c b9
      obtain ⟨⟨k2, -⟩, ⟨k3, -⟩⟩ := box2_c b10
      go_upto_region 17 with fail
      refine wp_region_tree (fun wx => wr.grownBy wx none) [2, 1, 2, 0, 2, 1, 2, 0, 2, 2] (.bl 0 (.bl 1 (.bl 2 (.bl 4 (.bl 5 (.bl 6 (.ef 3 (.ef 7 (.bl 8 (.bl 9 .done)))))))))) (by kernel_rfl) (by kernel_rfl) (gr_drew (World.grownBy.refl _ _)) ?_
      obtain ⟨W1, hW1⟩ : ∃ x, x = (wr).drew := ⟨_, rfl⟩
      rw [← hW1]
      have hgW1 : (wr).grownBy W1 none := by rw [hW1]; exact gr_drew (World.grownBy.refl _ _)
      clear hW1
      refine tree_p rfl rfl rfl rfl _ rfl (by simp) (fun K hK => ?_)
      apply Exists.intro
      refine ⟨fun wq K' hK' => ?_, ?_⟩
      · go_wp2_with fail
        exact hK'
      go_simp
      refine hK _ ?_
      clear hK K
      refine tree_b rfl rfl rfl rfl _ rfl (by simp) (fun K hK => ?_)
      apply Exists.intro
      refine ⟨fun wq hq K' hK' => ?_, ?_⟩
      · have q0 := hq.k k0
        have q1 := hq.k k1
        go_wp2_with fail
        exact hK'
      go_simp
      refine hK _ ?_
      clear hK K
      refine tree_p rfl rfl rfl rfl _ rfl (by simp) (fun K hK => ?_)
      apply Exists.intro
      refine ⟨fun wq K' hK' => ?_, ?_⟩
      · go_wp2_with fail
        exact hK'
      go_simp
      refine hK _ ?_
      clear hK K
      refine tree_p rfl rfl rfl rfl _ rfl (by simp) (fun K hK => ?_)
      apply Exists.intro
      refine ⟨fun wq K' hK' => ?_, ?_⟩
      · go_wp2_with fail
        exact hK'
      go_simp
      refine hK _ ?_
      clear hK K
      refine tree_b rfl rfl rfl rfl _ rfl (by simp) (fun K hK => ?_)
      apply Exists.intro
      refine ⟨fun wq hq K' hK' => ?_, ?_⟩
      · have q0 := hq.k k0
        have q1 := hq.k k1
        go_wp2_with fail
        exact hK'
      go_simp
      refine hK _ ?_
      clear hK K
      refine tree_p rfl rfl rfl rfl _ rfl (by simp) (fun K hK => ?_)
      apply Exists.intro
      refine ⟨fun wq K' hK' => ?_, ?_⟩
      · go_wp2_with fail
        exact hK'
      go_simp
      refine hK _ ?_
      clear hK K
      refine tree_e rfl rfl (fun K hK => ?_)
      go_wp2_with fail
      refine (hf1.out W1).mono ?_
      rintro e w3 ⟨rfl, hg3⟩
      go_wp2_with fail
      try go_simp
      refine hK _ _ (gr_trans hgW1 hg3) ?_
      clear hK K
      refine tree_e0 (by kernel_rfl) rfl rfl (fun K hK => ?_)
      go_wp2_with fail
      refine (hf2.out w3).mono ?_
      rintro e w7 ⟨rfl, hg7⟩
      go_wp2_with fail
      try go_simp
      refine hK _ _ trivial ?_
      clear hK K
      refine tree_p rfl rfl rfl rfl _ rfl (by simp) (fun K hK => ?_)
      apply Exists.intro
      refine ⟨fun wq K' hK' => ?_, ?_⟩
      · go_wp2_with fail
        exact hK'
      go_simp
      refine hK _ ?_
      clear hK K
      refine tree_p rfl rfl rfl rfl _ rfl (by simp) (fun K hK => ?_)
      apply Exists.intro
      refine ⟨fun wq K' hK' => ?_, ?_⟩
      · go_wp2_with fail
        exact hK'
      go_simp
      refine hK _ ?_
      clear hK K
      refine tree_done ?_
      have hgx := gr_trans hgW1 (gr_trans hg3 hg7)
      replace k2 := hgx.k k2
      replace k3 := hgx.k k3
      replace hgr := hgr.t hgx
      replace hb4 := hb4.pure hgx
      clear k0 k1 b9 b10 hgx hf1 hf2 hgW1 hg3 hg7
      go_upto_region 18 with fail
      refine wp_region_tree (fun wx => w7.grownBy wx none) [2, 1, 2, 0, 2, 2, 2, 2, 1, 2, 0, 2, 2, 2, 2, 2] (.bl 0 (.bl 1 (.bl 2 (.bl 4 (.bl 7 (.bl 8 (.bl 9 (.bl 11 (.ef 3 (.bl 5 (.bl 6 (.ef 10 (.bl 12 (.bl 13 (.bl 14 (.bl 15 .done)))))))))))))))) (by kernel_rfl) (by kernel_rfl) (gr_drew (World.grownBy.refl _ _)) ?_
      obtain ⟨W2, hW2⟩ : ∃ x, x = (w7).drew := ⟨_, rfl⟩
      rw [← hW2]
      have hgW2 : (w7).grownBy W2 none := by rw [hW2]; exact gr_drew (World.grownBy.refl _ _)
      clear hW2
      refine tree_p rfl rfl rfl rfl _ rfl (by simp) (fun K hK => ?_)
      apply Exists.intro
      refine ⟨fun wq K' hK' => ?_, ?_⟩
      · go_wp2_with fail
        exact hK'
      go_simp
      refine hK _ ?_
      clear hK K
      refine tree_b rfl rfl rfl rfl _ rfl (by simp) (fun K hK => ?_)
      apply Exists.intro
      refine ⟨fun wq hq K' hK' => ?_, ?_⟩
      · have q0 := hq.k k2
        have q1 := hq.k k3
        go_wp2_with fail
        exact hK'
      go_simp
      refine hK _ ?_
      clear hK K
      refine tree_p rfl rfl rfl rfl _ rfl (by simp) (fun K hK => ?_)
      apply Exists.intro
      refine ⟨fun wq K' hK' => ?_, ?_⟩
      · go_wp2_with fail
        exact hK'
      go_simp
      refine hK _ ?_
      clear hK K
      refine tree_p rfl rfl rfl rfl _ rfl (by simp) (fun K hK => ?_)
      apply Exists.intro
      refine ⟨fun wq K' hK' => ?_, ?_⟩
      · go_wp2_with fail
        exact hK'
      go_simp
      refine hK _ ?_
      clear hK K
      refine tree_p rfl rfl rfl rfl _ rfl (by simp) (fun K hK => ?_)
      apply Exists.intro
      refine ⟨fun wq K' hK' => ?_, ?_⟩
      · go_wp2_with fail
        exact hK'
      go_simp
      refine hK _ ?_
      clear hK K
      refine tree_b rfl rfl rfl rfl _ rfl (by simp) (fun K hK => ?_)
      apply Exists.intro
      refine ⟨fun wq hq K' hK' => ?_, ?_⟩
      · have q0 := hq.k k2
        have q1 := hq.k k3
        go_wp2_with fail
        exact hK'
      go_simp
      refine hK _ ?_
      clear hK K
      refine tree_p rfl rfl rfl rfl _ rfl (by simp) (fun K hK => ?_)
      apply Exists.intro
      refine ⟨fun wq K' hK' => ?_, ?_⟩
      · go_wp2_with fail
        exact hK'
      go_simp
      refine hK _ ?_
      clear hK K
      refine tree_p rfl rfl rfl rfl _ rfl (by simp) (fun K hK => ?_)
      apply Exists.intro
      refine ⟨fun wq K' hK' => ?_, ?_⟩
      · go_wp2_with fail
        exact hK'
      go_simp
      refine hK _ ?_
      clear hK K
      refine tree_e rfl rfl (fun K hK => ?_)
      go_wp2_with fail
      refine (hf3.out W2).mono ?_
      rintro e v3 ⟨rfl, hv3⟩
      go_wp2_with fail
      try go_simp
      refine hK _ _ (gr_trans hgW2 hv3) ?_
      clear hK K
      refine tree_p rfl rfl rfl rfl _ rfl (by simp) (fun K hK => ?_)
      apply Exists.intro
      refine ⟨fun wq K' hK' => ?_, ?_⟩
      · go_wp2_with fail
        exact hK'
      go_simp
      refine hK _ ?_
      clear hK K
      refine tree_p rfl rfl rfl rfl _ rfl (by simp) (fun K hK => ?_)
      apply Exists.intro
      refine ⟨fun wq K' hK' => ?_, ?_⟩
      · go_wp2_with fail
        exact hK'
      go_simp
      refine hK _ ?_
      clear hK K
      refine tree_e0 (by kernel_rfl) rfl rfl (fun K hK => ?_)
      go_wp2_with fail
      refine (hf4.out v3).mono ?_
      rintro e v10 ⟨rfl, hv10⟩
      go_wp2_with fail
      try go_simp
      refine hK _ _ trivial ?_
      clear hK K
      refine tree_p rfl rfl rfl rfl _ rfl (by simp) (fun K hK => ?_)
      apply Exists.intro
      refine ⟨fun wq K' hK' => ?_, ?_⟩
      · go_wp2_with fail
        exact hK'
      go_simp
      refine hK _ ?_
      clear hK K
      refine tree_p rfl rfl rfl rfl _ rfl (by simp) (fun K hK => ?_)
      apply Exists.intro
      refine ⟨fun wq K' hK' => ?_, ?_⟩
      · go_wp2_with fail
        exact hK'
      go_simp
      refine hK _ ?_
      clear hK K
      refine tree_p rfl rfl rfl rfl _ rfl (by simp) (fun K hK => ?_)
      apply Exists.intro
      refine ⟨fun wq K' hK' => ?_, ?_⟩
      · go_wp2_with fail
        exact hK'
      go_simp
      refine hK _ ?_
      clear hK K
      refine tree_p rfl rfl rfl rfl _ rfl (by simp) (fun K hK => ?_)
      apply Exists.intro
      refine ⟨fun wq K' hK' => ?_, ?_⟩
      · go_wp2_with fail
        exact hK'
      go_simp
      refine hK _ ?_
      clear hK K
      refine tree_done ?_
      have hgx := gr_trans hgW2 (gr_trans hv3 hv10)
      replace hgr := hgr.t hgx
      replace hb4 := hb4.pure hgx
      clear k2 k3 hgx hf3 hf4 hgW2 hv3 hv10
      obtain ⟨W, hW⟩ : ∃ W : Nat, x1 - x0 + 1 = W := ⟨(x1 - x0 + 1).toNat, by omega⟩
      obtain ⟨H, hH⟩ : ∃ H : Nat, y1 - y0 + 1 = H := ⟨(y1 - y0 + 1).toNat, by omega⟩
      rw [hW, hH] at hBig
      rw [hW, hH]
      rw [hW] at hwx'
      rw [hH] at hwy'
      replace hW := hide hW
      replace hH := hide hH
      have hlt4' := hb4.lt
      rcases q1 : decide (200 < (W : Int)) with _ | _
      rotate_left
      · have hE : Hid (ResC (fillE 0 rs step) step (fillS rs step) ⟨0, 0, 0, []⟩ 12) := by
          have e : fillE 0 rs step = 12 := by rw [hE0.out, if_pos ⟨by omega, by rw [hBig.out, q1]; rfl⟩]
          exact .inl ⟨by rw [e]; simp, rfl, e.symm⟩
        clear hBig hE0
        obtain ⟨⟨d0, f0⟩, ⟨d1, f1⟩, ⟨d2, f2⟩, ⟨d3, f3⟩⟩ := box4_c hb4
        go_wp2_with fail
        clear d0 d1 d2 d3 f0 f1 f2 f3
        have hgf := gr_new hgr (set4_gr (w := v10) (g := x4) (.int .i64 0) (.int .i64 0) (.int .i64 0) (.slice none 0 0)) hxl4
        have hbf := box_set4 hb4 (.int .i64 0) (.int .i64 0) (.int .i64 0) (.slice none 0 0)
        generalize (((v10.setCell ⟨x4, 0, none⟩ (.int .i64 0)).setCell ⟨x4, 1, none⟩ (.int .i64 0)).setCell ⟨x4, 2, none⟩ (.int .i64 0)).setCell ⟨x4, 3, none⟩ (.slice none 0 0) = wf at *
        obtain ⟨⟨d0, f0⟩, ⟨d1, f1⟩, ⟨d2, f2⟩, ⟨d3, f3⟩⟩ := box4_c hbf
        exact bodyPost_ret (v := .tuple #[.agg #[.int .i64 0, .int .i64 0, .int .i64 0, .slice none 0 0], .int .i64 12]) (by simp [results, Tryz.results12, go_sem, d0, d1, d2, d3, f0, f1, f2, f3]) rfl ⟨⟨0, 0, 0, []⟩, 12, none, 0, rfl, hE.out, Own.nil _ _ _, hgf⟩
      rcases q2 : decide (200 < (H : Int)) with _ | _
      rotate_left
      · have hE : Hid (ResC (fillE 0 rs step) step (fillS rs step) ⟨0, 0, 0, []⟩ 12) := by
          have e : fillE 0 rs step = 12 := by rw [hE0.out, if_pos ⟨by omega, by rw [hBig.out, q2]; simp⟩]
          exact .inl ⟨by rw [e]; simp, rfl, e.symm⟩
        clear hBig hE0
        obtain ⟨⟨d0, f0⟩, ⟨d1, f1⟩, ⟨d2, f2⟩, ⟨d3, f3⟩⟩ := box4_c hb4
        go_wp2_with fail
        clear d0 d1 d2 d3 f0 f1 f2 f3
        have hgf := gr_new hgr (set4_gr (w := v10) (g := x4) (.int .i64 0) (.int .i64 0) (.int .i64 0) (.slice none 0 0)) hxl4
        have hbf := box_set4 hb4 (.int .i64 0) (.int .i64 0) (.int .i64 0) (.slice none 0 0)
        generalize (((v10.setCell ⟨x4, 0, none⟩ (.int .i64 0)).setCell ⟨x4, 1, none⟩ (.int .i64 0)).setCell ⟨x4, 2, none⟩ (.int .i64 0)).setCell ⟨x4, 3, none⟩ (.slice none 0 0) = wf at *
        obtain ⟨⟨d0, f0⟩, ⟨d1, f1⟩, ⟨d2, f2⟩, ⟨d3, f3⟩⟩ := box4_c hbf
        exact bodyPost_ret (v := .tuple #[.agg #[.int .i64 0, .int .i64 0, .int .i64 0, .slice none 0 0], .int .i64 12]) (by simp [results, Tryz.results12, go_sem, d0, d1, d2, d3, f0, f1, f2, f3]) rfl ⟨⟨0, 0, 0, []⟩, 12, none, 0, rfl, hE.out, Own.nil _ _ _, hgf⟩
      have hE1 : Hid (fillE 0 rs step = 0) := by rw [Hid, hE0.out, if_neg (fun h => by have := h.2; rw [hBig.out, q1, q2] at this; simp at this)]
      have hWb : W ≤ 200 := by simp at q1; omega
      have hHb : H ≤ 200 := by simp at q2; omega
      clear hE0 hBig
      go_upto_region 21 with fail
      clear q1 q2
      have hNok : (Grd.none step x0 y0 W H).Ok := ⟨by show 2 ≤ step ∧ step ≤ 10000; exact hsp, by show -10000000 ≤ x0 ∧ x0 ≤ 10000000; omega, by show -10000000 ≤ y0 ∧ y0 ≤ 10000000; omega, by show W ≤ 1000; omega, by show H ≤ 1000; omega, by simp [Grd.none]⟩
      have hN := hide (fun V => newGrid_any step x0 y0 W H V hNok)
      obtain ⟨n, hn⟩ : ∃ n : Nat, n = W + 1 := ⟨_, rfl⟩
      have hWn : (W : Int) + 1 = (n : Int) := by rw [hn]; simp
      obtain ⟨i0, hi, hz, hi1, hi2⟩ := info_parts info_int
      have hmk := hide (fun V => run_makeOwn (P := Tryz.prog) V 22 3 i0 _ (0 : Int) Tryz.underlying22 hi hz hi1 rfl rfl .i64 .i64 n (by rw [hi2]; omega) (by simp [maxLen]; omega))
      clear hi hz hi1 hi2
      replace hn := hide hn
      have hlv := hgr.size
      go_cut [17] from 103 to 114 (fun s17 wx => ∃ f g b q, s17 = .pointer (some ⟨f, 0, none⟩) ∧ FilAt wx f g b q (Grd.none step x0 y0 W H) (List.replicate n 0) ∧ v10.grownBy wx none ∧ v10.heap.size ≤ f ∧ v10.heap.size ≤ g ∧ v10.heap.size ≤ b ∧ v10.heap.size ≤ q)
      case first =>
        clear hE1 hb4 hgr hlv
        refine wp_region_tree (fun wx => v10.grownBy wx none) [2, 2, 2, 2, 2, 0, 2, 2, 0, 2, 0, 2] (.bl 0 (.bl 1 (.bl 2 (.bl 3 (.bl 4 (.bl 6 (.bl 7 (.alt (.ef 5 (.ef 8 (.bl 9 (.ef 10 (.bl 11 .done))))) (.ef 8 (.ef 5 (.bl 9 (.ef 10 (.bl 11 .done))))))))))))) (by kernel_rfl) (by kernel_rfl) (gr_drew (World.grownBy.refl _ _)) ?_
        obtain ⟨u0, hu0⟩ : ∃ x, x = (v10).drew := ⟨_, rfl⟩
        rw [← hu0]
        have hgu0 : (v10).grownBy u0 none := by rw [hu0]; exact gr_drew (World.grownBy.refl _ _)
        clear hu0
        refine tree_p rfl rfl rfl rfl _ rfl (by simp) (fun K hK => ?_)
        apply Exists.intro
        refine ⟨fun wq K' hK' => ?_, ?_⟩
        · go_wp2_with fail
          exact hK'
        go_simp
        refine hK _ ?_
        clear hK K
        refine tree_p rfl rfl rfl rfl _ rfl (by simp) (fun K hK => ?_)
        apply Exists.intro
        refine ⟨fun wq K' hK' => ?_, ?_⟩
        · go_wp2_with fail
          exact hK'
        go_simp
        refine hK _ ?_
        clear hK K
        refine tree_p rfl rfl rfl rfl _ rfl (by simp) (fun K hK => ?_)
        apply Exists.intro
        refine ⟨fun wq K' hK' => ?_, ?_⟩
        · go_wp2_with fail
          exact hK'
        go_simp
        refine hK _ ?_
        clear hK K
        refine tree_p rfl rfl rfl rfl _ rfl (by simp) (fun K hK => ?_)
        apply Exists.intro
        refine ⟨fun wq K' hK' => ?_, ?_⟩
        · go_wp2_with fail
          exact hK'
        go_simp
        refine hK _ ?_
        clear hK K
        refine tree_p rfl rfl rfl rfl _ rfl (by simp) (fun K hK => ?_)
        apply Exists.intro
        refine ⟨fun wq K' hK' => ?_, ?_⟩
        · go_wp2_with fail
          exact hK'
        go_simp
        refine hK _ ?_
        clear hK K
        refine tree_p rfl rfl rfl rfl _ rfl (by simp) (fun K hK => ?_)
        apply Exists.intro
        refine ⟨fun wq K' hK' => ?_, ?_⟩
        · go_wp2_with fail
          exact hK'
        go_simp
        refine hK _ ?_
        clear hK K
        refine tree_p rfl rfl rfl rfl _ rfl (by simp) (fun K hK => ?_)
        apply Exists.intro
        refine ⟨fun wq K' hK' => ?_, ?_⟩
        · go_wp2_with fail
          exact hK'
        go_simp
        refine hK _ ?_
        clear hK K
        refine tree_alt ?_ ?_
        · refine tree_e0 (by kernel_rfl) rfl rfl (fun K hK => ?_)
          go_wp2_with fail
          refine (hN.out u0).mono ?_
          rintro e w5 ⟨gg, gb, rfl, hGd, hg5, hgg, hgb⟩
          go_wp2_with fail
          try go_simp
          refine hK _ _ trivial ?_
          clear hK K
          refine tree_e0 (by kernel_rfl) rfl rfl (fun K hK => ?_)
          obtain ⟨w8, hrun, hoO, hg8⟩ := hmk.out w5
          obtain ⟨qq, hqq⟩ : ∃ x, x = (w5).heap.size := ⟨_, rfl⟩
          rw [← hqq] at hrun hoO
          have hqs : (w5).heap.size ≤ qq := by omega
          replace hqq := hide hqq
          go_wp2_with fail
          clear hrun
          try go_simp
          refine hK _ _ trivial ?_
          clear hK K
          refine tree_p rfl rfl rfl rfl _ rfl (by simp) (fun K hK => ?_)
          apply Exists.intro
          refine ⟨fun wq K' hK' => ?_, ?_⟩
          · go_wp2_with fail
            exact hK'
          go_simp
          refine hK _ ?_
          clear hK K
          refine tree_e0 (by kernel_rfl) rfl rfl (fun K hK => ?_)
          go_wp2_with fail
          try go_simp
          refine hK _ _ trivial ?_
          clear hK K
          obtain ⟨w10, hw10⟩ : ∃ x, x = (w8).alloc (.cells [.pointer (some ⟨gg, 0, none⟩), .slice (some ⟨qq, 0, none⟩) n n].toArray 100) := ⟨_, rfl⟩
          have hg10 : (w8).grownBy w10 none := by rw [hw10]; exact gr_alloc (World.grownBy.refl _ _) _
          have hb10 : Box w10 (w8).heap.size 100 [.pointer (some ⟨gg, 0, none⟩), .slice (some ⟨qq, 0, none⟩) n n] := by rw [hw10]; exact Box.new _ _ _
          rw [← hw10]
          clear hw10
          obtain ⟨x10, hx10⟩ : ∃ x, x = (w8).heap.size := ⟨_, rfl⟩
          rw [← hx10] at hb10 ⊢
          have hxl10 : (w8).heap.size ≤ x10 := by omega
          clear hx10
          refine tree_p rfl rfl rfl rfl _ rfl (by simp) (fun K hK => ?_)
          apply Exists.intro
          refine ⟨fun wq K' hK' => ?_, ?_⟩
          · go_wp2_with fail
            exact hK'
          go_simp
          refine hK _ ?_
          clear hK K
          refine tree_done ?_
          go_wp2_with fail
          go_meet
          have k1 := hgu0.size
          have k2 := hg5.size
          have k3 := hg8.size
          have hel : (List.replicate n (0 : Int)).length = n := by simp
          exact ⟨x10, gg, gb, qq, rfl, ⟨by rw [hel]; exact hb10, hGd.pure (gr_trans hg8 hg10), by rw [hel]; exact (Own.lower hoO (Nat.zero_le _)).pure hg10⟩, gr_trans hgu0 (gr_trans (gr_trans hg5 hg8) hg10), by omega, by omega, by omega, by omega⟩
        · refine tree_e0 (by kernel_rfl) rfl rfl (fun K hK => ?_)
          obtain ⟨w8, hrun, hoO, hg8⟩ := hmk.out u0
          obtain ⟨qq, hqq⟩ : ∃ x, x = (u0).heap.size := ⟨_, rfl⟩
          rw [← hqq] at hrun hoO
          have hqs : (u0).heap.size ≤ qq := by omega
          replace hqq := hide hqq
          go_wp2_with fail
          clear hrun
          try go_simp
          refine hK _ _ trivial ?_
          clear hK K
          refine tree_e0 (by kernel_rfl) rfl rfl (fun K hK => ?_)
          go_wp2_with fail
          refine (hN.out w8).mono ?_
          rintro e w5 ⟨gg, gb, rfl, hGd, hg5, hgg, hgb⟩
          go_wp2_with fail
          try go_simp
          refine hK _ _ trivial ?_
          clear hK K
          refine tree_p rfl rfl rfl rfl _ rfl (by simp) (fun K hK => ?_)
          apply Exists.intro
          refine ⟨fun wq K' hK' => ?_, ?_⟩
          · go_wp2_with fail
            exact hK'
          go_simp
          refine hK _ ?_
          clear hK K
          refine tree_e0 (by kernel_rfl) rfl rfl (fun K hK => ?_)
          go_wp2_with fail
          try go_simp
          refine hK _ _ trivial ?_
          clear hK K
          obtain ⟨w10, hw10⟩ : ∃ x, x = (w5).alloc (.cells [.pointer (some ⟨gg, 0, none⟩), .slice (some ⟨qq, 0, none⟩) n n].toArray 100) := ⟨_, rfl⟩
          have hg10 : (w5).grownBy w10 none := by rw [hw10]; exact gr_alloc (World.grownBy.refl _ _) _
          have hb10 : Box w10 (w5).heap.size 100 [.pointer (some ⟨gg, 0, none⟩), .slice (some ⟨qq, 0, none⟩) n n] := by rw [hw10]; exact Box.new _ _ _
          rw [← hw10]
          clear hw10
          obtain ⟨x10, hx10⟩ : ∃ x, x = (w5).heap.size := ⟨_, rfl⟩
          rw [← hx10] at hb10 ⊢
          have hxl10 : (w5).heap.size ≤ x10 := by omega
          clear hx10
          refine tree_p rfl rfl rfl rfl _ rfl (by simp) (fun K hK => ?_)
          apply Exists.intro
          refine ⟨fun wq K' hK' => ?_, ?_⟩
          · go_wp2_with fail
            exact hK'
          go_simp
          refine hK _ ?_
          clear hK K
          refine tree_done ?_
          go_wp2_with fail
          go_meet
          have k1 := hgu0.size
          have k2 := hg5.size
          have k3 := hg8.size
          have hel : (List.replicate n (0 : Int)).length = n := by simp
          exact ⟨x10, gg, gb, qq, rfl, ⟨by rw [hel]; exact hb10, hGd.pure hg10, by rw [hel]; exact (Own.lower hoO (Nat.zero_le _)).pure (gr_trans hg5 hg10)⟩, gr_trans hgu0 (gr_trans (gr_trans hg8 hg5) hg10), by omega, by omega, by omega, by omega⟩
      case rest =>
      obtain ⟨f, g, b, q, rfl, hFA, hgc, hf0, hg0, hb0, hq0⟩ := hcut
      generalize hwq : wc = v11 at *
      clear hwq
      replace hb4 := hb4.pure hgc
      have hgr1 := hgr.t hgc
      have hsz4 : x4 < v10.heap.size := hlt4'
      clear hN hmk hWn hgc
      go_wp2_with fail
      refine (hSd.out v11 (hl.pure hgr1)).mono ?_
      rintro e v12 ⟨A6, c6, rfl, hO6, hg6⟩
      have hlo : b < v11.heap.size ∧ q < v11.heap.size ∧ f < v11.heap.size := ⟨hFA.gd.lt.2, (hFA.od.blk_lt rfl).2, hFA.bx.lt⟩
      have hbl := hide (sides_bd hok.out)
      have hrows := hide (fun (hs : (Grd.none step x0 y0 W H).step = step) (hB : BoxR rs step x0 y0 (x0 + W - 1) (y0 + H - 1)) => rows_all (O := Grd.none step x0 y0 W H) (rs := rs) hB)
      have hBR : Hid (BoxR rs step x0 y0 (x0 + W - 1) (y0 + H - 1)) := by
        have h1 := boxR_of (rs := rs) (fun r hr => by have := (hok.out.len r hr).1; omega) hsp.1
        rw [← hL.out, ← hx0'.out, ← hy0'.out, ← hx1'.out, ← hy1'.out] at h1
        have e1 : x0 + (W : Int) - 1 = x1 := by have := hW.out; omega
        have e2 : y0 + (H : Int) - 1 = y1 := by have := hH.out; omega
        rw [Hid, e1, e2]; exact h1
      have hlen6 : (sidesK rs rs.length).length ≤ 100000 := by rw [sidesK_len (Nat.le_refl _), flatK_all, ← hL.out]; exact hs
      have hslS := hO6.sl
      replace hb4 := hb4.pure hg6
      have hgr2 := hgr1.t hg6
      have hFB := hFA.pure hg6
      have hR0 : RowI v12 f g b q (Grd.none step x0 y0 W H) (rowsT (Grd.none step x0 y0 W H) (sidesK rs rs.length) 0) (List.replicate n 0) v12 := (RowI.start hFB).congr fun u v => by rw [rows_zero]
      have hodl : (List.replicate n (0 : Int)).length = W + 1 := by rw [hn.out]; simp
      clear hSd hO6 hg6 hFA hFB hgr1 hgr hok hx0' hy0' hx1' hy1'
      replace hL := hide hL
      generalize hLs : sidesK rs rs.length = Ls at *
      replace hLs := hide hLs
      go_wp2_with fail
      go_loopw [117] (fun i wr => ∃ (k : Nat) (od : List Int), k ≤ H ∧ i = .int .i64 k ∧ od.length = W + 1 ∧ RowI v12 f g b q (Grd.none step x0 y0 W H) (rowsT (Grd.none step x0 y0 W H) Ls k) od wr ∧ Box wr x4 34 [.int .i64 0, .int .i64 0, .int .i64 0, .slice none 0 0]) (fun i _ => H - (intOf i).toNat)
      case atStart => exact ⟨0, _, Nat.zero_le _, rfl, hodl, hR0, hb4⟩
      case round =>
        clear hR0 hb4 hodl
        obtain ⟨k, od, hk, rfl, hodl, hR, hb4⟩ := hrel
        by_cases hlt : k < H
        · have hcon := hide (rowAt_any v12 f g b q (Grd.none step x0 y0 W H) _ od A6 Ls.length c6 v11.heap.size Ls (y0 + k) wr hR hodl (hR.gr2.sl hslS hlo.1 hlo.2.1) rfl hlo hlen6 hbl.out (by show y0 ≤ y0 + (k : Int) ∧ y0 + (k : Int) < y0 + (H : Int); omega))
          replace hodl := hide hodl
          clear hR
          go_wp2_with fail
          refine hcon.out.mono ?_
          rintro e v14 ⟨rfl, hg14, od', hR', hod'⟩
          replace hb4 := hg14.box hb4 (by omega) (by omega)
          have hR2 := hide (hR'.congr (U := rowsT (Grd.none step x0 y0 W H) Ls (k + 1)) fun u v => by rw [rows_next]; rfl)
          replace hod' := hide hod'
          clear hcon hR' hg14 hodl
          go_wp2_with fail
          (go_roundw; (case rel => exact ⟨k + 1, od', by omega, by go_num, hod'.out, hR2.out, hb4⟩); (case measure => simp [intOf]; omega))
        · obtain rfl : k = H := by omega
          clear hlt hk hodl
          obtain ⟨c0, -, -, -, -⟩ := hR.cells
          have hgN := hR.gr2.new hgr2 (by have := hgr2.size; omega) (by omega)
          obtain ⟨O', hF', ⟨s1, s2, s3, s4, s5⟩, hat, -⟩ := hR
          have hCc := hide (gridCells_any g b O' wr hF'.gd)
          have hS : Hid (∀ x y, O'.at x y = fillS rs step x y) := fun x y => by
            rw [hat, Grd.none_at, Bool.false_or]
            exact hrows.out rfl hBR.out x y
          have hst' : Hid (O'.step = step) := s1
          clear hF' hat s1 s2 s3 s4 s5 hgr2
          go_wp2_with fail
          refine (hCc.out).mono ?_
          rintro e v9 ⟨c9, er9, A9, cc9, rfl, hC9, hO9, hg9⟩
          have hb9 := (hb4).pure hg9
          have hgw9 := (hgN).t hg9
          obtain ⟨⟨d0, f0⟩, ⟨d1, f1⟩, ⟨d2, f2⟩, ⟨d3, f3⟩⟩ := box4_c hb9
          replace hC9 := hide hC9
          obtain ⟨n9, hn9⟩ : ∃ n, n = c9.rows.length := ⟨_, rfl⟩
          rw [← hn9]
          replace hn9 := hide hn9
          go_wp2_with fail
          clear d0 d1 d2 d3 f0 f1 f2 f3
          have hgf := gr_new hgw9 (set4_gr (w := v9) (g := x4) (.int .i64 c9.step) (.int .i64 c9.x) (.int .i64 c9.y) (.slice A9 n9 cc9)) hxl4
          have hOf := (Own.lower hO9 ((hgN).size)).ne (set4_gr (w := v9) (g := x4) (.int .i64 c9.step) (.int .i64 c9.x) (.int .i64 c9.y) (.slice A9 n9 cc9)) (fun x h e => hb9.ne_own hO9 (by decide) (by injection e with e; rw [e]; exact h))
          have hbf := box_set4 hb9 (.int .i64 c9.step) (.int .i64 c9.x) (.int .i64 c9.y) (.slice A9 n9 cc9)
          generalize (((v9.setCell ⟨x4, 0, none⟩ (.int .i64 c9.step)).setCell ⟨x4, 1, none⟩ (.int .i64 c9.x)).setCell ⟨x4, 2, none⟩ (.int .i64 c9.y)).setCell ⟨x4, 3, none⟩ (.slice A9 n9 cc9) = wf at *
          obtain ⟨⟨d0, f0⟩, ⟨d1, f1⟩, ⟨d2, f2⟩, ⟨d3, f3⟩⟩ := box4_c hbf
          exact bodyPost_ret (v := .tuple #[.agg #[.int .i64 c9.step, .int .i64 c9.x, .int .i64 c9.y, .slice A9 n9 cc9], .int .i64 er9]) (by simp [results, Tryz.results12, go_sem, d0, d1, d2, d3, f0, f1, f2, f3]) rfl ⟨c9, er9, A9, cc9, by rw [hn9.out], (fun h => .inr ⟨hE1.out, by have h2 := IsCells.congr h hS.out; rw [hst'.out] at h2; exact h2⟩) hC9.out, hOf, hgf⟩

end Go.Proofs.YtgcpegjggakemaaGreatDoor
