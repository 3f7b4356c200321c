/- Contracts of functions that this seat's laws reach, each: what one call returns and what it leaves in memory; no condition beyond each theorem's own hypotheses. -/
import Derived.Test.YtlfobddinilmcaaDoorFarmJ
set_option linter.unusedVariables false
set_option linter.unusedSimpArgs false
namespace Go.Proofs.YtlfobddinilmcaaDoor
open Go Go.RowKit Go.Bl

def endsL (p : List Prn) (j : List Jb) (plan : List (List Int)) (ch : Int) : List Int := if plannedF p j plan ch = 0 then endsF p j plan ch else []
def endsN (p : List Prn) (j : List Jb) (plan : List (List Int)) (ch : Int) : Int := if plannedF p j plan ch = 0 then endF p j plan ch else 0
theorem endsF_len (p : List Prn) (j : List Jb) (plan : List (List Int)) (ch : Int) : (endsF p j plan ch).length = j.length := outO_len _ _

set_option maxHeartbeats 1000000 in
theorem endsTop_any (A : Option Addr) (c : Nat) (p : List Prn) (B : Option Addr) (d : Nat) (j : List Jb) (C : Option Addr) (e0 : Nat) (plan : List (List Int)) (ch : Int) (w : World) (hp : Sl w 0 A p) (hj : Sl w 0 B j) (hpl : Sl w 0 C plan) :
    Calls Tryd.prog 17 #[.slice A p.length c, .slice B j.length d, .slice C plan.length e0, .int .i64 ch] w fun e w' => ∃ A' c', e = .returned (.tuple #[.slice A' (endsL p j plan ch).length c', .int .i64 (endsN p j plan ch), .int .i64 (plannedF p j plan ch)]) ∧ Sl w' 0 A' (endsL p j plan ch) ∧ w.grownBy w' none := by
  have hPl := planned_any A c p B d j C e0 plan ch w hp hj hpl
  by_cases h0 : plannedF p j plan ch = 0
  · have hE : endsL p j plan ch = endsF p j plan ch := if_pos h0
    have hN : endsN p j plan ch = endF p j plan ch := if_pos h0
    rw [hE, hN]
    have hok := pok_of h0
    rw [h0] at hPl ⊢
    clear h0 hE hN
    have hel := endsF_len p j plan ch
    rw [hel]
    replace hel := hide hel
    replace hok := hide hok
    go_enter Tryd.func17, Tryd.ntmps17
    go_wp2_with fail
    refine hPl.mono ?_
    rintro e w1 ⟨rfl, hg1⟩
    go_wp2_with fail
    refine (ends_any _ _ _ _ _ _ _ _ _ _ _ (hp.pure hg1) (hj.pure hg1) (hpl.pure hg1) hok.out).mono ?_
    rintro e w2 ⟨g, rfl, ho, hg2⟩
    go_wp2_with fail
    exact bodyPost_ret (v := .tuple #[.slice (some ⟨g, 0, none⟩) j.length j.length, .int .i64 (endF p j plan ch), .int .i64 0]) (by simp [results, Tryd.results17, go_sem]) rfl ⟨_, _, rfl, ho.sl.mono (Nat.zero_le _), gr_trans hg1 hg2⟩
  · have hE : endsL p j plan ch = [] := if_neg h0
    have hN : endsN p j plan ch = 0 := if_neg h0
    rw [hE, hN]
    clear hE hN
    generalize plannedF p j plan ch = F at *
    have hb : (F != 0) = true := by simp [h0]
    clear h0
    go_enter Tryd.func17, Tryd.ntmps17
    go_wp2_with fail
    refine hPl.mono ?_
    rintro e w1 ⟨rfl, hg1⟩
    go_wp2_with fail
    exact bodyPost_ret (v := .tuple #[.slice none 0 0, .int .i64 0, .int .i64 F]) (by simp [results, Tryd.results17, go_sem]) rfl ⟨_, _, rfl, Sl.nil, hg1⟩

def endV (j : List Jb) (ch : Int) (m : ByteArray) (row : List Int) : List Int := (rowC j ch (0, m) row).map (·.2)
theorem endV_snoc (j : List Jb) (ch : Int) (m : ByteArray) (row : List Int) (i : Int) : endV j ch m (row ++ [i]) = endV j ch m row ++ [(doC (clkC j ch (0, m) row) (jobAt j i) ch).1] := by unfold endV; rw [rowC_snoc, List.map_append]; rfl
theorem rowC_len (j : List Jb) (ch : Int) : ∀ (c : Int × ByteArray) (row : List Int), (rowC j ch c row).length = row.length
  | _, [] => rfl
  | c, i :: r => by simp [rowC, rowC_len j ch _ r]
theorem endV_len (j : List Jb) (ch : Int) (m : ByteArray) (row : List Int) : (endV j ch m row).length = row.length := by simp [endV, rowC_len]

set_option maxHeartbeats 4000000 in
set_option maxRecDepth 100000 in
theorem endsOn_any (ky mat : ByteArray) (B : Option Addr) (d : Nat) (j : List Jb) (C : Option Addr) (e0 : Nat) (row : List Int) (ch : Int) (w : World) (hj : Sl w 0 B j) (hr : Sl w 0 C row) (hok : JOk j ch) (hrow : row.length ≤ 1000) (hin : ∀ i ∈ row, 0 ≤ i ∧ i < (j.length : Int)) :
    Calls Tryd.prog 53 #[.agg #[.string ky, .string mat], .slice B j.length d, .slice C row.length e0, .int .i64 ch] w fun e w' => ∃ A' c', e = .returned (.slice A' row.length c') ∧ Own w' w.heap.size 3 A' c' (endV j ch mat row) ∧ w.grownBy w' none := by
  have hj5 := hok.len
  have hch := hok.chg
  replace hok := hide hok
  replace hin := hide hin
  obtain ⟨i0, hi, hz, hi1, hi2⟩ := info_parts info_int
  go_enter Tryd.func53, Tryd.ntmps53
  go_upto_region 1 with fail
  obtain ⟨w0, hw0⟩ : ∃ x, x = (w).alloc (.cells [.string ky, .string mat].toArray 64) := ⟨_, rfl⟩
  have hg0 : (w).grownBy w0 none := by rw [hw0]; exact gr_alloc (World.grownBy.refl _ _) _
  have hb0 : Box w0 (w).heap.size 64 [.string ky, .string mat] := by rw [hw0]; exact Box.new _ _ _
  have hxs0 := hb0.lt
  rw [← hw0]
  clear hw0
  obtain ⟨x0, hx0⟩ : ∃ x, x = (w).heap.size := ⟨_, rfl⟩
  rw [← hx0] at hb0 hxs0 ⊢
  have hxl0 : (w).heap.size ≤ x0 := by omega
  clear hx0
  go_wp2_with fail
  go_loopw [10, 9, 15] (fun at_ out i wr => ∃ (m : Nat) (A' : Option Addr) (c' : Nat), m ≤ row.length ∧ i = .int .i64 m ∧ at_ = .int .i64 (clkC j ch (0, mat) (row.take m)).1 ∧ out = .slice A' m c' ∧ Own wr w.heap.size 3 A' c' (endV j ch mat (row.take m)) ∧ Box wr x0 64 [.string ky, .string (clkC j ch (0, mat) (row.take m)).2] ∧ w.grownBy wr none) (fun _ _ i _ => row.length - (intOf i).toNat)
  case atStart => exact ⟨0, none, 0, Nat.zero_le _, rfl, rfl, rfl, Own.nil _ _ _, hb0, hg0⟩
  case round =>
    clear hb0 hg0
    obtain ⟨m, A', c', hmk, rfl, rfl, rfl, hoO, hb0, hg⟩ := hrel
    by_cases hml : m < row.length
    · obtain ⟨g2, o2, cx, rfl, _, hb2', rfl, hc⟩ := (hr.pure hg).at_ (by decide) hml
      have r0 : _ := hc 0 _ rfl
      rw [show Enc.sz Int = 1 from rfl, Nat.mul_one, Nat.add_zero] at r0
      clear hc
      have hri := hin.out _ (List.getElem_mem hml)
      obtain ⟨x, hx⟩ := Int.eq_ofNat_of_zero_le hri.1
      have hxl : x < j.length := by omega
      have htk := take_snoc hml
      have hps2 : Hid (endV j ch mat (row.take (m + 1)) = endV j ch mat (row.take m) ++ [(doC (clkC j ch (0, mat) (row.take m)) j[x] ch).1]) := by rw [Hid, htk, endV_snoc, hx, jobAt_nat hxl]
      have hck2 : Hid (clkC j ch (0, mat) (row.take (m + 1)) = doC (clkC j ch (0, mat) (row.take m)) j[x] ch) := by rw [Hid, htk, clkC_snoc, hx, jobAt_nat hxl]
      have hbd := clkC_bd hok.out (row.take m) (fun i hi => hin.out i (List.mem_of_mem_take hi)) (0, mat) (N := 0) (by simp)
      rw [List.length_take, Nat.min_eq_left hmk] at hbd
      obtain ⟨gj, oj, cx, rfl, _, hbj, rfl, hc⟩ := (hj.pure hg).at_ (by decide) hxl
      have hjb := hok.out.bd _ (List.getElem_mem hxl)
      rw [hx] at r0
      have j0 : wr.cell? ⟨gj, oj + x * 4, none⟩ = some (.string j[x].key) := hc 0 _ rfl
      have j1 : wr.cell? ⟨gj, oj + x * 4 + 1, none⟩ = some (.string j[x].mat) := hc 1 _ rfl
      have j2 : wr.cell? ⟨gj, oj + x * 4 + 2, none⟩ = some (.int .i64 j[x].min) := hc 2 _ rfl
      have j3 : wr.cell? ⟨gj, oj + x * 4 + 3, none⟩ = some (.int .i64 j[x].due) := hc 3 _ rfl
      clear htk hri hx hc
      have hlq : Hid ((endV j ch mat (row.take m)).length = m) := by rw [Hid, endV_len, List.length_take, Nat.min_eq_left hmk]
      generalize hQ : endV j ch mat (row.take m) = Q at *
      generalize hcl : clkC j ch (0, mat) (row.take m) = cl at *
      clear hQ hcl
      obtain ⟨cle, clm⟩ := cl
      have xb := hbd.1
      have xb2 := hbd.2
      simp only at xb xb2
      generalize hY : j[x] = Y at *
      have hda : doC (cle, clm) Y ch = (cle + (if clm = Y.mat then 0 else ch) + Y.min, Y.mat) := rfl
      obtain ⟨t, ht, ht2⟩ : ∃ t : Int, Hid (t = if (!(Y.mat.toList == clm.toList)) then 1 else 0) ∧ doC (cle, clm) Y ch = (cle + (Y.min + ch * t), Y.mat) := by
        by_cases e : clm = Y.mat
        · refine ⟨0, ?_, ?_⟩
          · subst e; simp [Hid]
          · rw [hda, if_pos e]; simp
        · refine ⟨1, ?_, ?_⟩
          · have : Y.mat.toList ≠ clm.toList := fun e1 => e (toList_inj e1).symm
            simp [Hid, this]
          · rw [hda, if_neg e]; simp; omega
      have ht01 : t = 0 ∨ t = 1 := by rw [ht.out]; split <;> simp
      have htb : 0 ≤ ch * t ∧ ch * t ≤ 100000 := by rcases ht01 with rfl | rfl <;> simp <;> omega
      rw [ht2] at hck2 hps2
      have hT := hide (truth_any (!(Y.mat.toList == clm.toList)))
      rw [← ht.out] at hT
      clear hda ht2
      obtain ⟨bb0, _⟩ := hb0.c 0 rfl
      obtain ⟨bb1, _⟩ := hb0.c 1 rfl
      go_upto_region 6 with fail
      refine wp_region_tree (fun wx => wr.grownBy wx none) [2, 2, 2, 2, 2, 1, 2, 2, 2, 2, 2, 1, 2, 1, 2, 0, 2, 2, 2, 2] (.bl 0 (.bl 1 (.bl 2 (.bl 3 (.bl 4 (.bl 5 (.bl 6 (.bl 7 (.bl 8 (.bl 9 (.bl 10 (.bl 11 (.bl 12 (.bl 13 (.bl 14 (.ef 15 (.bl 16 (.bl 17 (.bl 18 (.bl 19 .done)))))))))))))))))))) (by kernel_rfl) (by kernel_rfl) (gr_drew (World.grownBy.refl _ _)) ?_
      obtain ⟨W1, hW1⟩ : ∃ x, x = (wr).drew := ⟨_, rfl⟩
      rw [← hW1]
      have hgW1 : (wr).grownBy W1 none := by rw [hW1]; exact gr_drew (World.grownBy.refl _ _)
      clear hW1
      refine tree_p rfl rfl rfl rfl _ rfl (by simp) (fun K hK => ?_)
      apply Exists.intro
      refine ⟨fun wq K' hK' => ?_, ?_⟩
      · go_wp2_with fail
        exact hK'
      go_simp
      refine hK _ ?_
      clear hK K
      refine tree_p rfl rfl rfl rfl _ rfl (by simp) (fun K hK => ?_)
      apply Exists.intro
      refine ⟨fun wq K' hK' => ?_, ?_⟩
      · go_wp2_with fail
        exact hK'
      go_simp
      refine hK _ ?_
      clear hK K
      refine tree_p rfl rfl rfl rfl _ rfl (by simp) (fun K hK => ?_)
      apply Exists.intro
      refine ⟨fun wq K' hK' => ?_, ?_⟩
      · go_wp2_with fail
        exact hK'
      go_simp
      refine hK _ ?_
      clear hK K
      refine tree_p rfl rfl rfl rfl _ rfl (by simp) (fun K hK => ?_)
      apply Exists.intro
      refine ⟨fun wq K' hK' => ?_, ?_⟩
      · go_wp2_with fail
        exact hK'
      go_simp
      refine hK _ ?_
      clear hK K
      refine tree_p rfl rfl rfl rfl _ rfl (by simp) (fun K hK => ?_)
      apply Exists.intro
      refine ⟨fun wq K' hK' => ?_, ?_⟩
      · go_wp2_with fail
        exact hK'
      go_simp
      refine hK _ ?_
      clear hK K
      refine tree_b rfl rfl rfl rfl _ rfl (by simp) (fun K hK => ?_)
      apply Exists.intro
      refine ⟨fun wq hq K' hK' => ?_, ?_⟩
      · have jj1 := hq.k j1
        have jj2 := hq.k j2
        have b1 := hq.k bb1
        go_wp2_with fail
        exact hK'
      go_simp
      refine hK _ ?_
      clear hK K
      refine tree_p rfl rfl rfl rfl _ rfl (by simp) (fun K hK => ?_)
      apply Exists.intro
      refine ⟨fun wq K' hK' => ?_, ?_⟩
      · go_wp2_with fail
        exact hK'
      go_simp
      refine hK _ ?_
      clear hK K
      refine tree_p rfl rfl rfl rfl _ rfl (by simp) (fun K hK => ?_)
      apply Exists.intro
      refine ⟨fun wq K' hK' => ?_, ?_⟩
      · go_wp2_with fail
        exact hK'
      go_simp
      refine hK _ ?_
      clear hK K
      refine tree_p rfl rfl rfl rfl _ rfl (by simp) (fun K hK => ?_)
      apply Exists.intro
      refine ⟨fun wq K' hK' => ?_, ?_⟩
      · go_wp2_with fail
        exact hK'
      go_simp
      refine hK _ ?_
      clear hK K
      refine tree_p rfl rfl rfl rfl _ rfl (by simp) (fun K hK => ?_)
      apply Exists.intro
      refine ⟨fun wq K' hK' => ?_, ?_⟩
      · go_wp2_with fail
        exact hK'
      go_simp
      refine hK _ ?_
      clear hK K
      refine tree_p rfl rfl rfl rfl _ rfl (by simp) (fun K hK => ?_)
      apply Exists.intro
      refine ⟨fun wq K' hK' => ?_, ?_⟩
      · go_wp2_with fail
        exact hK'
      go_simp
      refine hK _ ?_
      clear hK K
      refine tree_b rfl rfl rfl rfl _ rfl (by simp) (fun K hK => ?_)
      apply Exists.intro
      refine ⟨fun wq hq K' hK' => ?_, ?_⟩
      · have jj1 := hq.k j1
        have jj2 := hq.k j2
        have b1 := hq.k bb1
        go_wp2_with fail
        exact hK'
      go_simp
      refine hK _ ?_
      clear hK K
      refine tree_p rfl rfl rfl rfl _ rfl (by simp) (fun K hK => ?_)
      apply Exists.intro
      refine ⟨fun wq K' hK' => ?_, ?_⟩
      · go_wp2_with fail
        exact hK'
      go_simp
      refine hK _ ?_
      clear hK K
      refine tree_b rfl rfl rfl rfl _ rfl (by simp) (fun K hK => ?_)
      apply Exists.intro
      refine ⟨fun wq hq K' hK' => ?_, ?_⟩
      · have jj1 := hq.k j1
        have jj2 := hq.k j2
        have b1 := hq.k bb1
        go_wp2_with fail
        exact hK'
      go_simp
      refine hK _ ?_
      clear hK K
      refine tree_p rfl rfl rfl rfl _ rfl (by simp) (fun K hK => ?_)
      apply Exists.intro
      refine ⟨fun wq K' hK' => ?_, ?_⟩
      · go_wp2_with fail
        exact hK'
      go_simp
      refine hK _ ?_
      clear hK K
      refine tree_e rfl rfl (fun K hK => ?_)
      go_wp2_with fail
      refine (hT.out _).mono ?_
      rintro e _ ⟨rfl, rfl⟩
      go_wp2_with fail
      try go_simp
      refine hK _ _ (hgW1) ?_
      clear hK K
      refine tree_p rfl rfl rfl rfl _ rfl (by simp) (fun K hK => ?_)
      apply Exists.intro
      refine ⟨fun wq K' hK' => ?_, ?_⟩
      · go_wp2_with fail
        exact hK'
      go_simp
      refine hK _ ?_
      clear hK K
      refine tree_p rfl rfl rfl rfl _ rfl (by simp) (fun K hK => ?_)
      apply Exists.intro
      refine ⟨fun wq K' hK' => ?_, ?_⟩
      · go_wp2_with fail
        exact hK'
      go_simp
      refine hK _ ?_
      clear hK K
      refine tree_p rfl rfl rfl rfl _ rfl (by simp) (fun K hK => ?_)
      apply Exists.intro
      refine ⟨fun wq K' hK' => ?_, ?_⟩
      · go_wp2_with fail
        exact hK'
      go_simp
      refine hK _ ?_
      clear hK K
      refine tree_p rfl rfl rfl rfl _ rfl (by simp) (fun K hK => ?_)
      apply Exists.intro
      refine ⟨fun wq K' hK' => ?_, ?_⟩
      · go_wp2_with fail
        exact hK'
      go_simp
      refine hK _ ?_
      clear hK K
      refine tree_done ?_
      have hb1 := hb0.pure hgW1
      have hoO1 := hoO.pure hgW1
      have hg1 := gr_trans hg hgW1
      obtain ⟨y0, z0⟩ := hb1.c 0 rfl
      obtain ⟨y1, z1⟩ := hb1.c 1 rfl
      have jj1 := hgW1.k j1
      have hQl := hlq.out
      have hx0 : w.heap.size ≤ x0 := hxl0
      have hne := hb1.ne_own hoO1 (by decide)
      have hb2 := hb1.set_ 1 (.string Y.mat) (by simp)
      have hoO2 := hoO1.set_other (g' := x0) (i := 1) (.string Y.mat) hne
      have hg2 := gr_set hg1 (p := ⟨x0, 1, none⟩) (.inr hx0) (.string Y.mat)
      clear hb0 hoO hg hgW1 hb1 hoO1 hg1 j0 j1 j2 j3 hY r0 bb0 bb1
      simp only [List.set_cons_succ, List.set_cons_zero] at hb2
      go_upto_region 8 with fail
      obtain ⟨w7, hw7⟩ : ∃ x, x = W1.setCell ⟨x0, 1, none⟩ (.string Y.mat) := ⟨_, rfl⟩
      rw [← hw7] at hb2 hoO2 hg2 ⊢
      clear hw7 y0 y1 z0 z1 hne jj1 hT ht ht01
      have hgs := hg2.size
      go_wp2_with (at_builtin; obtain ⟨i0, hi, hz, h1, h2⟩ := info_parts info_int; refine wpList_pushAt (α := Int) _ rfl (.tmp 44) (.tmp 46) _ rfl w.heap.size 3 i0 _ 8 Tryd.underlying22 hi hz h1 h2 rfl _ _ _ Q rfl ?c1 (by exact (hoO2.pure (gr_alloc (World.grownBy.refl _ _) _))) 0 ⟨_, 0, none⟩ 1 1 [(cle + (Y.min + ch * t))] rfl rfl (by exact sl_int1 _ _ _ _ (by first | rfl | simp)) ?c2 ?c3 ?c4 ?_)
      case c1 => simp [hQl]
      case c2 => first | omega | (simp; omega)
      case c3 => first | (simp [maxLen]; omega) | (unfold maxLen; omega)
      case c4 => first | omega | (simp; omega)
      intro A5 c5 w5 hown5 hG5
      have hq := gr_alloc (World.grownBy.refl w7 none) (.cells #[.int .i64 (cle + (Y.min + ch * t))] 3)
      have hoq := hoO2.pure hq
      have hb5 := (hb2.pure hq).gr hG5.1 ((hb2.pure hq).ne_own hoq (by decide))
      have hg5 : w.grownBy w5 none := gr_row (gr_trans hg2 hq) hG5.1 (fun x e => (hoq.blk_lt e).1)
      clear hb2 hq hoq hoO2
      go_wp2
      (go_roundw; (case rel => exact ⟨m + 1, A5, c5, by omega, by go_num, by rw [hck2.out], by simp [hQl], by rw [hps2.out]; exact hown5, by rw [hck2.out]; exact hb5, hg5⟩); (case measure => simp [intOf]; omega))
    · have hm2 : m = row.length := by omega
      subst hm2
      rw [List.take_length] at hoO
      go_wp2_with fail
      go_ret
      exact ⟨A', c', rfl, hoO, hg⟩
end Go.Proofs.YtlfobddinilmcaaDoor
