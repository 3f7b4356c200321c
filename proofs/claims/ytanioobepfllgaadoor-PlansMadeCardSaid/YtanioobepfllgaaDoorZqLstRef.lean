/- Contracts of functions that this seat's laws reach, each: what one call returns and what it leaves in memory; no condition beyond each theorem's own hypotheses. -/
import Derived.Test.YtanioobepfllgaaDoorZqLateL
import Derived.Test.YtanioobepfllgaaDoorZqEqStr
import Derived.Test.YtanioobepfllgaaDoorZqGrS
import Derived.Test.YtanioobepfllgaaDoorZqTree
set_option linter.unusedVariables false
set_option linter.unusedSimpArgs false
namespace Go.Proofs.YtanioobepfllgaaDoor
open Go Go.RowKit Go.Bl

/-- the boxes of the search, and what it has found -/
structure InvL (w0 : World) (lo : Nat) (C : List BoxV) (gL gB : Nat) (tL tB : TypeId) (wr : World) (s : List Int × Int) : Prop where
  k : ∀ b ∈ C, Box wr b.g b.t b.v
  bl : Box wr gL tL [.int .i64 s.2]
  bb : ∃ B d, s.1.length ≤ d ∧ Box wr gB tB [.slice B s.1.length d] ∧ Sl wr lo B s.1
  gr : w0.grownBy wr none
  sz : lo ≤ wr.heap.size
  ok : (∀ b ∈ C, b.g ≠ gL ∧ b.g ≠ gB) ∧ gL ≠ gB ∧ (gL < lo ∧ gB < lo) ∧ w0.heap.size ≤ gL ∧ w0.heap.size ≤ gB
section
variable {w0 : World} {lo : Nat} {C : List BoxV} {gL gB : Nat} {tL tB : TypeId} {wr w' : World} {s : List Int × Int}

theorem InvL.pure (h : InvL w0 lo C gL gB tL tB wr s) (hg : wr.grownBy w' none) : InvL w0 lo C gL gB tL tB w' s := by
  obtain ⟨B, d, h1, h2, h3⟩ := h.bb
  exact ⟨fun b hb => (h.k b hb).pure hg, h.bl.pure hg, ⟨B, d, h1, h2.pure hg, h3.pure hg⟩, h.gr.t hg, Nat.le_trans h.sz hg.size, h.ok⟩

theorem InvL.best (h : InvL w0 lo C gL gB tL tB wr s) {A : Option Addr} {d : Nat} {o : List Int} (hs : Sl wr lo A o) (hd : o.length ≤ d) (m : Int) :
    InvL w0 lo C gL gB tL tB ((wr.setCell ⟨gB, 0, none⟩ (.slice A o.length d)).setCell ⟨gL, 0, none⟩ (.int .i64 m)) (o, m) ∧ GrS (fun x => x = gL ∨ x = gB) wr ((wr.setCell ⟨gB, 0, none⟩ (.slice A o.length d)).setCell ⟨gL, 0, none⟩ (.int .i64 m)) := by
  obtain ⟨B, d', h1, h2, h3⟩ := h.bb
  obtain ⟨k1, k2, ⟨k3, k4⟩, k5, k6⟩ := h.ok
  have g1 := gr_set (World.grownBy.refl wr (some gB)) (p := ⟨gB, 0, none⟩) (.inl rfl) (.slice A o.length d)
  have g2 := gr_set (World.grownBy.refl (wr.setCell ⟨gB, 0, none⟩ (.slice A o.length d)) (some gL)) (p := ⟨gL, 0, none⟩) (.inl rfl) (.int .i64 m)
  have hG : GrS (fun x => x = gL ∨ x = gB) wr ((wr.setCell ⟨gB, 0, none⟩ (.slice A o.length d)).setCell ⟨gL, 0, none⟩ (.int .i64 m)) :=
    (GrS.of (p := fun x => x = gL ∨ x = gB) g1 (fun x e => .inr (by injection e with e; exact e.symm))).step g2 (fun x e => .inl (.inl (by injection e with e; exact e.symm)))
  refine ⟨⟨fun b hb => hG.box (h.k b hb) (fun e => by have := k1 b hb; rcases e with e | e; exact this.1 e; exact this.2 e), ?_, ⟨A, d, hd, ?_, hG.sl hs (fun x e => by rcases e with rfl | rfl <;> assumption)⟩, hG.new h.gr (fun x e => by rcases e with rfl | rfl <;> assumption), Nat.le_trans h.sz hG.size, h.ok⟩, hG⟩
  · exact (h.bl.gr g1 (fun e => by injection e with e; exact k2 e.symm)).set_ 0 _ (by simp)
  · exact (h2.set_ 0 (.slice A o.length d) (by simp)).gr g2 (fun e => by injection e with e; exact k2 e)
end

theorem memB_I (T : List Int) (x : Int) : memB T x = memI T x := rfl

set_option maxHeartbeats 4000000 in
set_option maxRecDepth 100000 in
theorem lref_any {w0 : World} {lo : Nat} {C : List BoxV} {gL gB : Nat} {tL tB : TypeId} (j : List Jb) (ch : Int) (mat key : ByteArray) (J : Option Addr) (cj gJ gP gC gT : Nat) (tJ tP tC tT : TypeId) (hj7 : j.length ≤ 7) (hF : farmF [⟨key, mat⟩] j = 0) (hc : spanF ch 0 100000 = 0) (hJ : Sl w0 0 J j)
    (mJ : (⟨gJ, tJ, [.slice J j.length cj]⟩ : BoxV) ∈ C) (mP : (⟨gP, tP, [.string key, .string mat]⟩ : BoxV) ∈ C) (mC : (⟨gC, tC, [.int .i64 ch]⟩ : BoxV) ∈ C) (mT : (⟨gT, tT, [.func (.func 47) #[] #[.pointer (some ⟨gJ, 0, none⟩), .pointer (some ⟨gP, 0, none⟩), .pointer (some ⟨gC, 0, none⟩), .pointer (some ⟨gL, 0, none⟩), .pointer (some ⟨gB, 0, none⟩), .pointer (some ⟨gT, 0, none⟩)]]⟩ : BoxV) ∈ C) :
    ∀ (k : Nat) (ord : List Int) (s : List Int × Int) (w : World) (A : Option Addr) (c : Nat), ord.length + k = j.length → IsP j.length ord → Sl w lo A ord → ord.length ≤ c → InvL w0 lo C gL gB tL tB w s →
      Calls Tryd.prog 47 #[.slice A ord.length c, .pointer (some ⟨gJ, 0, none⟩), .pointer (some ⟨gP, 0, none⟩), .pointer (some ⟨gC, 0, none⟩), .pointer (some ⟨gL, 0, none⟩), .pointer (some ⟨gB, 0, none⟩), .pointer (some ⟨gT, 0, none⟩)] w fun e w' => e = .returned (.tuple #[]) ∧ InvL w0 lo C gL gB tL tB w' (moreS (latF j ch mat) j.length k ord s) ∧ GrS (fun x => x = gL ∨ x = gB) w w' := by
  have hok := hide (jok_of hF hc)
  intro k
  induction k with
  | zero =>
    intro ord s w A c hk hp hl hlc hI
    have hlen : ord.length = j.length := by omega
    have hpk := hide (pok_of (planned_order (p := [⟨key, mat⟩]) hF rfl hc hp hlen))
    have hst : Hid (lateS (endsF [⟨key, mat⟩] j [ord] ch) j j.length = latF j ch mat ord) := lateS_order hp hlen
    have hLb := hide fun W (hP : Sl W 0 (some ⟨w.heap.size, 0, none⟩) [(⟨key, mat⟩ : Prn)]) (hJ' : Sl W 0 J j) C e0 (hPl : Sl W 0 C [ord]) => lateBy_any (some ⟨w.heap.size, 0, none⟩) 1 [⟨key, mat⟩] J cj j C e0 [ord] ch W hP hJ' hPl hpk.out
    rw [hst.out] at hLb
    have hb : ((ord.length : Int) == (j.length : Int)) = true := by simp; omega
    obtain ⟨j0, -⟩ := (hI.k _ mJ).c 0 rfl
    obtain ⟨p0, -⟩ := (hI.k _ mP).c 0 rfl
    obtain ⟨p1, -⟩ := (hI.k _ mP).c 1 rfl
    obtain ⟨c0, -⟩ := (hI.k _ mC).c 0 rfl
    have hJw := hJ.pure hI.gr
    have j1 := (gr_alloc (World.grownBy.refl w none) (.cells #[.string key, .string mat] 47)).k j0
    have c1 := ((gr_alloc (World.grownBy.refl w none) (.cells #[.string key, .string mat] 47)).t (gr_alloc (World.grownBy.refl _ none) (.cells #[.slice A ord.length c] 22))).k c0
    show Calls Tryd.prog 47 #[.slice A ord.length c, .pointer (some ⟨gJ, 0, none⟩), .pointer (some ⟨gP, 0, none⟩), .pointer (some ⟨gC, 0, none⟩), .pointer (some ⟨gL, 0, none⟩), .pointer (some ⟨gB, 0, none⟩), .pointer (some ⟨gT, 0, none⟩)] w fun e w' => e = .returned (.tuple #[]) ∧ InvL w0 lo C gL gB tL tB w' (stepO (latF j ch mat) s ord) ∧ GrS (fun x => x = gL ∨ x = gB) w w'
    have hlj : Hid (ord.length = j.length) := hlen
    clear hk hp hlen hpk hF hc
    go_enter Tryd.func47, Tryd.ntmps47
    go_wp2_with fail
    obtain ⟨W1, hW1⟩ : ∃ x, x = w.alloc (.cells #[.string key, .string mat] 47) := ⟨_, rfl⟩
    have hP1 : Sl W1 0 (some ⟨w.heap.size, 0, none⟩) [(⟨key, mat⟩ : Prn)] := by rw [hW1]; exact sl_oneAt w 0 [.string key, .string mat] _ _ _ rfl (Nat.zero_le _) rfl
    have hg1 : w.grownBy W1 none := by rw [hW1]; exact gr_alloc (World.grownBy.refl _ _) _
    have hz1 : w.heap.size + 1 = W1.heap.size := by rw [hW1]; simp
    rw [← hW1, hz1]
    clear hW1 hz1
    obtain ⟨W2, hW2⟩ : ∃ x, x = W1.alloc (.cells #[.slice A ord.length c] 22) := ⟨_, rfl⟩
    have hg2 : W1.grownBy W2 none := by rw [hW2]; exact gr_alloc (World.grownBy.refl _ _) _
    have hPl : Sl W2 0 (some ⟨W1.heap.size, 0, none⟩) [ord] := by
      have hs2 : Sl W2 0 A ord := (hl.mono (Nat.zero_le _)).pure (hg1.t hg2)
      rw [hW2] at hs2 ⊢
      exact sl_lit W1 0 [.slice A ord.length c] _ _ (Nat.zero_le _) (by simp [maxLen]) (Row.single ⟨A, c, rfl, hlc, hs2⟩)
    rw [← hW2]
    clear hW2
    refine (hLb.out W2 (hP1.pure hg2) (hJw.pure (hg1.t hg2)) (some ⟨W1.heap.size, 0, none⟩) 1 hPl).mono ?_
    rintro e w3 ⟨A3, c3, rfl, -, hg3⟩
    have hg03 := hg1.t (hg2.t hg3)
    have hI3 := hI.pure hg03
    have hl3 := hl.pure hg03
    have hG3 : GrS (fun x => x = gL ∨ x = gB) w w3 := GrS.of hg03 (fun x e => by cases e)
    clear hI hP1 hPl hg1 hg2 hg3 hg03 hLb j0 p0 p1 c0 hJw j1 c1
    obtain ⟨LV, hLV⟩ : ∃ x, latF j ch mat ord = x := ⟨_, rfl⟩
    have hst : Hid (stepO (latF j ch mat) s ord = if s.2 < 0 ∨ LV < s.2 then (ord, LV) else s) := by rw [Hid]; unfold stepO; rw [hLV]
    rw [hLV]
    clear hLV
    obtain ⟨l0, fl0⟩ := hI3.bl.c 0 rfl
    obtain ⟨B, d, -, hbb, -⟩ := hI3.bb
    obtain ⟨b0, fb0⟩ := hbb.c 0 rfl
    obtain ⟨l1, fl1⟩ := (hI3.bl.gr (gr_set (World.grownBy.refl w3 (some gB)) (p := ⟨gB, 0, none⟩) (.inl rfl) (.slice A ord.length c)) (fun e => by injection e with e; exact hI3.ok.2.1 e.symm)).c 0 rfl
    clear hbb
    by_cases hcc : s.2 < 0 ∨ LV < s.2
    · have hsp : Hid (stepO (latF j ch mat) s ord = (ord, LV)) := by rw [Hid, hst.out, if_pos hcc]
      obtain ⟨hI4, hG4⟩ := hI3.best hl3 hlc LV
      have hG5 := hG3.trans hG4
      replace hI4 := hide hI4
      replace hG5 := hide hG5
      clear hG4 hI3 hG3
      by_cases h1 : s.2 < 0
      · clear hcc hst
        go_wp2_with fail
        refine bodyPost_ret (results_none rfl _ _ _) rfl ?_
        exact ⟨rfl, by rw [hsp.out]; exact hI4.out, hG5.out⟩
      · have h2 : LV < s.2 := hcc.resolve_left h1
        replace h1 : 0 ≤ s.2 := by omega
        clear hcc hst
        go_wp2_with fail
        refine bodyPost_ret (results_none rfl _ _ _) rfl ?_
        exact ⟨rfl, by rw [hsp.out]; exact hI4.out, hG5.out⟩
    · have hsp : Hid (stepO (latF j ch mat) s ord = s) := by rw [Hid, hst.out, if_neg hcc]
      have h1 : 0 ≤ s.2 := by omega
      have h2 : s.2 ≤ LV := by omega
      clear hcc hst
      go_wp2_with fail
      refine bodyPost_ret (results_none rfl _ _ _) rfl ?_
      exact ⟨rfl, by rw [hsp.out]; exact hI3, hG3⟩
  | succ k ih =>
    intro ord s w A c hk hp hl hlc hI
    have hb : ((ord.length : Int) == (j.length : Int)) = false := by simp; omega
    have ho7 : ord.length ≤ 6 := by omega
    have hst : InvL w0 lo C gL gB tL tB w (moreL (moreS (latF j ch mat) j.length k) ord s 0) := hI
    obtain ⟨j0, -⟩ := (hI.k _ mJ).c 0 rfl
    have hkk : Hid (ord.length + (k + 1) = j.length) := hk
    replace ih := hide ih
    replace hp := hide hp
    clear hk hI
    go_enter Tryd.func47, Tryd.ntmps47
    go_wp2_with fail
    clear j0 hb
    go_loopw [37] (fun i wr => ∃ m : Nat, m ≤ j.length ∧ i = .int .i64 m ∧ InvL w0 lo C gL gB tL tB wr (moreL (moreS (latF j ch mat) j.length k) ord s m) ∧ GrS (fun x => x = gL ∨ x = gB) w wr) (fun i _ => j.length - (intOf i).toNat)
    case atStart => exact ⟨0, Nat.zero_le _, rfl, hst, GrS.refl _ _⟩
    case round =>
      clear hst
      obtain ⟨m, hm, rfl, hI, hG⟩ := hrel
      by_cases hlt : m < j.length
      · have hlw := hG.sl hl (fun x e => by have := hI.ok.2.2.1; rcases e with rfl | rfl <;> omega)
        have hin := hide (@moreL_in (moreS (latF j ch mat) j.length k) ord s m)
        have hout := hide (@moreL_out (moreS (latF j ch mat) j.length k) ord s m)
        obtain ⟨S, hSe⟩ : ∃ S, moreL (moreS (latF j ch mat) j.length k) ord s m = S := ⟨_, rfl⟩
        rw [hSe] at hI hin hout
        replace hSe := hide hSe
        have hCt := hide (containsInt_any A c ord (m : Int) wr (hlw.mono (Nat.zero_le _)))
        rw [memB_I] at hCt
        rcases hmem : memI ord (m : Int) with _ | _
        · rw [hmem] at hCt
          have hnx := hide (hout.out hmem)
          have hp2 := hide (isP_snoc hp.out hlt hmem)
          replace hmem := hide hmem
          clear hin hout
          obtain ⟨t0, -⟩ := (hI.k _ mT).c 0 rfl
          have hCl := hide fun W (h : wr.grownBy W none) => cloneInt_any A c ord W ((hlw.mono (Nat.zero_le _)).pure h) (by omega)
          have hlen : Hid ((ord ++ [(m : Int)]).length = ord.length + 1) := by simp [Hid]
          have hIH := hide fun W A5 c5 (hg : wr.grownBy W none) (hs : Sl W lo A5 (ord ++ [(m : Int)])) (hc5 : (ord ++ [(m : Int)]).length ≤ c5) => ih.out (ord ++ [(m : Int)]) S W A5 c5 (by rw [hlen.out]; have := hkk.out; omega) hp2.out hs hc5 (hI.pure hg)
          have hsz := hI.sz
          obtain ⟨i0, hi, hz9, hi1, hi2⟩ := info_parts infoI
          replace hi := hide hi
          replace hz9 := hide hz9
          replace hi1 := hide hi1
          replace hi2 := hide hi2
          go_wp2_with fail
          refine hCt.out.mono ?_
          rintro e w1 ⟨rfl, rfl⟩
          clear hCt
          go_upto_region 8 with fail
          refine wp_region_tree (fun wx => wr.grownBy wx none) [1, 2, 0, 2, 0, 0, 0] (.bl 0 (.bl 1 (.bl 3 (.alt (.ef 2 (.ef 4 (.ef 5 (.ef 6 .done)))) (.ef 4 (.ef 2 (.ef 5 (.ef 6 .done)))))))) (by kernel_rfl) (by kernel_rfl) (gr_drew (World.grownBy.refl _ _)) ?_
          obtain ⟨u0, hu0⟩ : ∃ x, x = (wr).drew := ⟨_, rfl⟩
          rw [← hu0]
          have hgu0 : (wr).grownBy u0 none := by rw [hu0]; exact gr_drew (World.grownBy.refl _ _)
          clear hu0
          refine tree_b rfl rfl rfl rfl _ rfl (by simp) (fun K hK => ?_)
          apply Exists.intro
          refine ⟨fun wq hq K' hK' => ?_, ?_⟩
          · have t1 := hq.k t0
            go_wp2_with fail
            exact hK'
          go_simp
          refine hK _ ?_
          clear hK K
          refine tree_p rfl rfl rfl rfl _ rfl (by simp) (fun K hK => ?_)
          apply Exists.intro
          refine ⟨fun wq K' hK' => ?_, ?_⟩
          · go_wp2_with fail
            exact hK'
          go_simp
          refine hK _ ?_
          clear hK K
          refine tree_p rfl rfl rfl rfl _ rfl (by simp) (fun K hK => ?_)
          apply Exists.intro
          refine ⟨fun wq K' hK' => ?_, ?_⟩
          · go_wp2_with fail
            exact hK'
          go_simp
          refine hK _ ?_
          clear hK K
          refine tree_alt ?_ ?_
          · refine tree_e rfl rfl (fun K hK => ?_)
            go_wp2_with fail
            refine (hCl.out u0 (gr_trans hgu0 (World.grownBy.refl _ _))).mono ?_
            rintro e w2 ⟨A2, c2, rfl, hO2, hg2⟩
            go_wp2_with fail
            try go_simp
            refine hK _ _ (gr_trans (gr_trans hgu0 (World.grownBy.refl _ _)) hg2) ?_
            clear hK K
            have hO2s : Own w2 wr.heap.size 3 A2 c2 ord := hO2.lower (gr_trans hgu0 (World.grownBy.refl _ _)).size
            refine tree_e rfl rfl (fun K hK => ?_)
            go_wp2_with fail
            try go_simp
            refine hK _ _ (gr_alloc (gr_trans hgu0 hg2) _) ?_
            clear hK K
            obtain ⟨w4, hw4⟩ : ∃ x, x = (w2).alloc (.cells [.int .i64 (m : Int)].toArray 3) := ⟨_, rfl⟩
            have hg4 : (w2).grownBy w4 none := by rw [hw4]; exact gr_alloc (World.grownBy.refl _ _) _
            have hb4 : Box w4 (w2).heap.size 3 [.int .i64 (m : Int)] := by rw [hw4]; exact Box.new _ _ _
            rw [← hw4]
            clear hw4
            have hs4 := hb4.sl (l := [(m : Int)]) (lo := 0) (row_ints _ _ [(m : Int)]) (Nat.zero_le _) (by simp [maxLen])
            refine tree_e rfl rfl (fun K hK => ?_)
            have hgb := gr_trans hgu0 (gr_trans hg2 hg4)
            refine wp_pushAt (α := Int) _ (.tmp 46) (.tmp 48) _ rfl wr.heap.size 3 i0 _ 8 Tryd.underlying22 hi.out hz9.out hi1.out hi2.out rfl _ _ _ ord rfl rfl (by exact hO2s.pure hg4) 0 ⟨_, 0, none⟩ 1 1 [(m : Int)] rfl rfl (by exact hs4.pure (World.grownBy.refl _ _)) ?_ ?_ ?_ ?_
            · simp; omega
            · simp [maxLen]; omega
            · exact hgb.size
            intro A5 c5 w5 hO5 hG5
            have hgt5 : wr.grownBy w5 none := gr_row hgb hG5.1 (fun x e => (hO2s.blk_lt e).1)
            have hIH5 := hide (hIH.out w5 A5 c5 hgt5 (hO5.sl.mono hsz) hO5.cap)
            rw [hlen.out] at hIH5 ⊢
            clear hO5 hG5
            try go_simp
            refine hK _ _ (hgt5) ?_
            clear hK K
            refine tree_e0 (by kernel_rfl) rfl rfl (fun K hK => ?_)
            have hIH6 := hIH5.out
            go_wp2_with fail
            refine hIH6.mono ?_
            rintro e w6 ⟨rfl, hI6, hG6⟩
            clear hIH6 hIH5
            go_wp2_with fail
            try go_simp
            refine hK _ _ trivial ?_
            clear hK K
            refine tree_done ?_
            have hGz := (hG.pure hgt5).trans hG6
            go_wp2_with fail
            (go_roundw; (case rel => exact ⟨m + 1, by omega, by go_num, by rw [hnx.out]; exact hI6, hGz⟩); (case measure => simp [intOf]; omega))
          · refine tree_e rfl rfl (fun K hK => ?_)
            go_wp2_with fail
            try go_simp
            refine hK _ _ (gr_alloc (gr_trans hgu0 (World.grownBy.refl _ _)) _) ?_
            clear hK K
            obtain ⟨w4, hw4⟩ : ∃ x, x = (u0).alloc (.cells [.int .i64 (m : Int)].toArray 3) := ⟨_, rfl⟩
            have hg4 : (u0).grownBy w4 none := by rw [hw4]; exact gr_alloc (World.grownBy.refl _ _) _
            have hb4 : Box w4 (u0).heap.size 3 [.int .i64 (m : Int)] := by rw [hw4]; exact Box.new _ _ _
            rw [← hw4]
            clear hw4
            have hs4 := hb4.sl (l := [(m : Int)]) (lo := 0) (row_ints _ _ [(m : Int)]) (Nat.zero_le _) (by simp [maxLen])
            refine tree_e rfl rfl (fun K hK => ?_)
            go_wp2_with fail
            refine (hCl.out w4 (gr_trans hgu0 hg4)).mono ?_
            rintro e w2 ⟨A2, c2, rfl, hO2, hg2⟩
            go_wp2_with fail
            try go_simp
            refine hK _ _ (gr_trans (gr_trans hgu0 hg4) hg2) ?_
            clear hK K
            have hO2s : Own w2 wr.heap.size 3 A2 c2 ord := hO2.lower (gr_trans hgu0 hg4).size
            refine tree_e rfl rfl (fun K hK => ?_)
            have hgb := gr_trans hgu0 (gr_trans hg4 hg2)
            refine wp_pushAt (α := Int) _ (.tmp 46) (.tmp 48) _ rfl wr.heap.size 3 i0 _ 8 Tryd.underlying22 hi.out hz9.out hi1.out hi2.out rfl _ _ _ ord rfl rfl (by exact hO2s.pure (World.grownBy.refl _ _)) 0 ⟨_, 0, none⟩ 1 1 [(m : Int)] rfl rfl (by exact hs4.pure hg2) ?_ ?_ ?_ ?_
            · simp; omega
            · simp [maxLen]; omega
            · exact hgb.size
            intro A5 c5 w5 hO5 hG5
            have hgt5 : wr.grownBy w5 none := gr_row hgb hG5.1 (fun x e => (hO2s.blk_lt e).1)
            have hIH5 := hide (hIH.out w5 A5 c5 hgt5 (hO5.sl.mono hsz) hO5.cap)
            rw [hlen.out] at hIH5 ⊢
            clear hO5 hG5
            try go_simp
            refine hK _ _ (hgt5) ?_
            clear hK K
            refine tree_e0 (by kernel_rfl) rfl rfl (fun K hK => ?_)
            have hIH6 := hIH5.out
            go_wp2_with fail
            refine hIH6.mono ?_
            rintro e w6 ⟨rfl, hI6, hG6⟩
            clear hIH6 hIH5
            go_wp2_with fail
            try go_simp
            refine hK _ _ trivial ?_
            clear hK K
            refine tree_done ?_
            have hGz := (hG.pure hgt5).trans hG6
            go_wp2_with fail
            (go_roundw; (case rel => exact ⟨m + 1, by omega, by go_num, by rw [hnx.out]; exact hI6, hGz⟩); (case measure => simp [intOf]; omega))
        · rw [hmem] at hCt
          have hnx := hide (hin.out hmem)
          go_wp2_with fail
          refine hCt.out.mono ?_
          rintro e w1 ⟨rfl, rfl⟩
          go_wp2_with fail
          (go_roundw; (case rel => exact ⟨m + 1, by omega, by go_num, by rw [hnx.out]; exact hI, hG⟩); (case measure => simp [intOf]; omega))
      · obtain rfl : m = j.length := by omega
        go_wp2_with fail
        go_end0
        exact ⟨rfl, hI, hG⟩

set_option maxHeartbeats 2000000 in
set_option maxRecDepth 100000 in
theorem leastLateOf_any (key mat : ByteArray) (J : Option Addr) (cj : Nat) (j : List Jb) (ch : Int) (w : World) (hJ : Sl w 0 J j) (hF : farmF [⟨key, mat⟩] j = 0) (hc : spanF ch 0 100000 = 0) (hj7 : j.length ≤ 7) :
    Calls Tryd.prog 19 #[.agg #[.string key, .string mat], .slice J j.length cj, .int .i64 ch] w fun e w' => ∃ B d, e = .returned (.tuple #[.slice B (leastL (latF j ch mat) j.length).1.length d, .int .i64 (leastL (latF j ch mat) j.length).2]) ∧ (leastL (latF j ch mat) j.length).1.length ≤ d ∧
      Sl w' 0 B (leastL (latF j ch mat) j.length).1 ∧ w.grownBy w' none := by
  have hmf : ∀ (fn : Fn) (first cap : Array Value) (w : World), (Instr.makeFunc fn first cap).run Tryd.prog w = .ok (.func fn first cap) w := fun _ _ _ _ => rfl
  have hsf : ∀ (a : Addr) (fn : Fn) (first cap : Array Value) (m : Mode) (w : World), (store a (.func fn first cap) m).run Tryd.prog w = stored Tryd.prog w a (.func fn first cap) m := fun a fn first cap m w => run_store _ w a _ m rfl
  go_enter Tryd.func19, Tryd.ntmps19
  go_upto_region 1 with fail
  obtain ⟨w3, hw3⟩ : ∃ x, x = (w).alloc (.cells [.string key, .string mat].toArray 47) := ⟨_, rfl⟩
  have hg3 : (w).grownBy w3 none := by rw [hw3]; exact gr_alloc (World.grownBy.refl _ _) _
  have hb3 : Box w3 (w).heap.size 47 [.string key, .string mat] := by rw [hw3]; exact Box.new _ _ _
  have hz3 : w3.heap.size = (w).heap.size + 1 := by rw [hw3]; simp
  rw [← hw3]
  clear hw3
  obtain ⟨x3, hx3⟩ : ∃ x, x = (w).heap.size := ⟨_, rfl⟩
  rw [← hx3] at hb3 hz3 ⊢
  have hxl3 : (w).heap.size ≤ x3 := by omega
  have hy3 : x3 < w3.heap.size := by omega
  clear hx3
  rw [← hz3]
  clear hz3
  obtain ⟨w4, hw4⟩ : ∃ x, x = (w3).alloc (.cells [.slice J j.length cj].toArray 28) := ⟨_, rfl⟩
  have hg4 : (w3).grownBy w4 none := by rw [hw4]; exact gr_alloc (World.grownBy.refl _ _) _
  have hb4 : Box w4 (w3).heap.size 28 [.slice J j.length cj] := by rw [hw4]; exact Box.new _ _ _
  have hz4 : w4.heap.size = (w3).heap.size + 1 := by rw [hw4]; simp
  rw [← hw4]
  clear hw4
  obtain ⟨x4, hx4⟩ : ∃ x, x = (w3).heap.size := ⟨_, rfl⟩
  rw [← hx4] at hb4 hz4 ⊢
  have hxl4 : (w3).heap.size ≤ x4 := by omega
  have hy4 : x4 < w4.heap.size := by omega
  clear hx4
  rw [← hz4]
  clear hz4
  obtain ⟨w5, hw5⟩ : ∃ x, x = (w4).alloc (.cells [.int .i64 ch].toArray 3) := ⟨_, rfl⟩
  have hg5 : (w4).grownBy w5 none := by rw [hw5]; exact gr_alloc (World.grownBy.refl _ _) _
  have hb5 : Box w5 (w4).heap.size 3 [.int .i64 ch] := by rw [hw5]; exact Box.new _ _ _
  have hz5 : w5.heap.size = (w4).heap.size + 1 := by rw [hw5]; simp
  rw [← hw5]
  clear hw5
  obtain ⟨x5, hx5⟩ : ∃ x, x = (w4).heap.size := ⟨_, rfl⟩
  rw [← hx5] at hb5 hz5 ⊢
  have hxl5 : (w4).heap.size ≤ x5 := by omega
  have hy5 : x5 < w5.heap.size := by omega
  clear hx5
  clear hz5
  go_upto_region 3 with fail
  obtain ⟨w8, hw8⟩ : ∃ x, x = (w5).alloc (.cells [.slice none 0 0].toArray 22) := ⟨_, rfl⟩
  have hg8 : (w5).grownBy w8 none := by rw [hw8]; exact gr_alloc (World.grownBy.refl _ _) _
  have hb8 : Box w8 (w5).heap.size 22 [.slice none 0 0] := by rw [hw8]; exact Box.new _ _ _
  have hz8 : w8.heap.size = (w5).heap.size + 1 := by rw [hw8]; simp
  rw [← hw8]
  clear hw8
  obtain ⟨x8, hx8⟩ : ∃ x, x = (w5).heap.size := ⟨_, rfl⟩
  rw [← hx8] at hb8 hz8 ⊢
  have hxl8 : (w5).heap.size ≤ x8 := by omega
  have hy8 : x8 < w8.heap.size := by omega
  clear hx8
  rw [← hz8]
  clear hz8
  obtain ⟨w9, hw9⟩ : ∃ x, x = (w8).alloc (.cells [.int .i64 (-1)].toArray 3) := ⟨_, rfl⟩
  have hg9 : (w8).grownBy w9 none := by rw [hw9]; exact gr_alloc (World.grownBy.refl _ _) _
  have hb9 : Box w9 (w8).heap.size 3 [.int .i64 (-1)] := by rw [hw9]; exact Box.new _ _ _
  have hz9 : w9.heap.size = (w8).heap.size + 1 := by rw [hw9]; simp
  rw [← hw9]
  clear hw9
  obtain ⟨x9, hx9⟩ : ∃ x, x = (w8).heap.size := ⟨_, rfl⟩
  rw [← hx9] at hb9 hz9 ⊢
  have hxl9 : (w8).heap.size ≤ x9 := by omega
  have hy9 : x9 < w9.heap.size := by omega
  clear hx9
  clear hz9
  go_upto_region 4 with fail
  obtain ⟨w10, hw10⟩ : ∃ x, x = (w9).alloc (.cells [.nilFunc].toArray 84) := ⟨_, rfl⟩
  have hg10 : (w9).grownBy w10 none := by rw [hw10]; exact gr_alloc (World.grownBy.refl _ _) _
  have hb10 : Box w10 (w9).heap.size 84 [.nilFunc] := by rw [hw10]; exact Box.new _ _ _
  have hz10 : w10.heap.size = (w9).heap.size + 1 := by rw [hw10]; simp
  rw [← hw10]
  clear hw10
  obtain ⟨x10, hx10⟩ : ∃ x, x = (w9).heap.size := ⟨_, rfl⟩
  rw [← hx10] at hb10 hz10 ⊢
  have hxl10 : (w9).heap.size ≤ x10 := by omega
  have hy10 : x10 < w10.heap.size := by omega
  clear hx10
  clear hz10
  obtain ⟨m0, f0⟩ := hb10.c 0 rfl
  go_upto_region 5 with fail
  clear m0 f0 hsf hmf
  obtain ⟨w11, hw11⟩ : ∃ x, x = w10.setCell ⟨x10, 0, none⟩ (.func (.func 47) #[] #[.pointer (some ⟨x4, 0, none⟩), .pointer (some ⟨x3, 0, none⟩), .pointer (some ⟨x5, 0, none⟩), .pointer (some ⟨x9, 0, none⟩), .pointer (some ⟨x8, 0, none⟩), .pointer (some ⟨x10, 0, none⟩)]) := ⟨_, rfl⟩
  have hb11 := hb10.set_ 0 (.func (.func 47) #[] #[.pointer (some ⟨x4, 0, none⟩), .pointer (some ⟨x3, 0, none⟩), .pointer (some ⟨x5, 0, none⟩), .pointer (some ⟨x9, 0, none⟩), .pointer (some ⟨x8, 0, none⟩), .pointer (some ⟨x10, 0, none⟩)]) (by simp)
  have hg11 : w9.grownBy w11 none := by rw [hw11]; exact gr_set hg10 (.inr hxl10) _
  rw [← hw11] at hb11 ⊢
  have hy11 : w10.heap.size ≤ w11.heap.size := by rw [hw11]; simp
  clear hw11
  simp only [List.set_cons_zero] at hb11
  have h811 := hg9.t hg11
  have h511 := hg8.t h811
  have h411 := hg5.t h511
  have h311 := hg4.t h411
  have hw := hg3.t h311
  have hI0 : InvL w w11.heap.size [⟨x4, 28, [.slice J j.length cj]⟩, ⟨x3, 47, [.string key, .string mat]⟩, ⟨x5, 3, [.int .i64 ch]⟩, ⟨x10, 84, [.func (.func 47) #[] #[.pointer (some ⟨x4, 0, none⟩), .pointer (some ⟨x3, 0, none⟩), .pointer (some ⟨x5, 0, none⟩), .pointer (some ⟨x9, 0, none⟩), .pointer (some ⟨x8, 0, none⟩), .pointer (some ⟨x10, 0, none⟩)]]⟩] x9 x8 3 22 w11 ([], -1) := by
    refine ⟨fun b hb => ?_, hb9.pure hg11, ⟨none, 0, Nat.le_refl _, hb8.pure h811, Sl.nil⟩, hw, Nat.le_refl _, fun b hb => ?_, by omega, ⟨by omega, by omega⟩, by omega, by omega⟩
    · simp only [List.mem_cons, List.not_mem_nil, or_false] at hb
      rcases hb with rfl | rfl | rfl | rfl
      · exact hb4.pure h411
      · exact hb3.pure h311
      · exact hb5.pure h511
      · exact hb11
    · simp only [List.mem_cons, List.not_mem_nil, or_false] at hb
      rcases hb with rfl | rfl | rfl | rfl <;> (simp only; omega)
  have hM := hide (lref_any j ch mat key J cj x4 x3 x5 x10 28 47 3 84 hj7 hF hc hJ (by simp) (by simp) (by simp) (by simp) j.length [] ([], -1) w11 none 0 (by simp) ⟨List.nodup_nil, by simp⟩ Sl.nil (Nat.le_refl _) hI0)
  obtain ⟨t0, -⟩ := hb11.c 0 rfl
  clear hI0 hb3 hb4 hb5 hb8 hb9 hb10 hb11 hg3 hg4 hg5 hg8 hg9 hg10 hg11 h811 h511 h411 h311 hF hc
  obtain ⟨LL, hLL⟩ : ∃ x, leastL (latF j ch mat) j.length = x := ⟨_, rfl⟩
  have hM2 : Hid (moreS (latF j ch mat) j.length j.length [] ([], -1) = LL) := hLL
  rw [hM2.out] at hM
  clear hM2
  replace hLL := hide hLL
  go_wp2_with fail
  refine hM.out.mono ?_
  rintro e w12 ⟨rfl, hI, -⟩
  obtain ⟨a0, -⟩ := hI.bl.c 0 rfl
  obtain ⟨B, d, hdl, hbb, hsb⟩ := hI.bb
  obtain ⟨a1, -⟩ := hbb.c 0 rfl
  have hgz := hI.gr
  clear hM hI hbb t0
  replace hdl := hide hdl
  go_wp2_with fail
  go_quiet (fail)
  go_wp2_with fail
  refine bodyPost_ret (v := .tuple #[.slice B LL.1.length d, .int .i64 LL.2]) (by simp [results, Tryd.results19, go_sem]) rfl ⟨B, d, by rw [hLL.out], by rw [hLL.out]; exact hdl.out, by rw [hLL.out]; exact (hsb.mono (Nat.zero_le _)).pure (gr_drewN (World.grownBy.refl _ _) _), hgz.t (gr_drewN (World.grownBy.refl _ _) _)⟩

end Go.Proofs.YtanioobepfllgaaDoor
