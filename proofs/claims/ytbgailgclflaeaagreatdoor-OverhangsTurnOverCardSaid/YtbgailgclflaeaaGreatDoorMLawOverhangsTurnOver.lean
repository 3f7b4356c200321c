/- Contracts of functions that this seat's laws reach, each: what one call returns and what it leaves in memory; no condition beyond each theorem's own hypotheses. -/
import Derived.Test.YtbgailgclflaeaaGreatDoorMReady
import Derived.Test.YtbgailgclflaeaaGreatDoorMRightM
import Derived.Test.YtbgailgclflaeaaGreatDoorMOverData
import Derived.Test.YtbgailgclflaeaaGreatDoorMNormalM
import Derived.Test.YtbgailgclflaeaaGreatDoorMSlices
import Derived.Deep.DeepCutAuto
set_option linter.unusedVariables false
set_option linter.unusedSimpArgs false
namespace Go.Proofs.YtbgailgclflaeaaGreatDoor
open Go Go.RowKit Go.Bl

/-- a box that holds a mesh -/
def MBx (g : Nat) (m : MeshV) (w : World) : Prop := ∃ (A : Option Addr) (c : Nat) (B : Option Addr) (d : Nat), w.cell? ⟨g, 0, none⟩ = some (.slice A m.vs.length c) ∧ w.cell? ⟨g, 1, none⟩ = some (.slice B m.fs.length d) ∧ Sl w 0 A m.vs ∧ Sl w 0 B m.fs

theorem MBx.pure {g : Nat} {m : MeshV} {w w' : World} (h : MBx g m w) (hg : w.grownBy w' none) : MBx g m w' := let ⟨A, c, B, d, h1, h2, h3, h4⟩ := h; ⟨A, c, B, d, hg.k h1, hg.k h2, h3.pure hg, h4.pure hg⟩

set_option maxHeartbeats 4000000 in
set_option maxRecDepth 100000 in
theorem overhangsTurnOver_law (A : Option Addr) (n c : Nat) (L : List Int) (w : World) (hL : Sl w 0 A L) (hn : L.length = n) :
    Calls Tryz.prog 5 #[.slice A n c] w fun e w' => e = .returned (.bool true) ∧ w.grownBy w' none := by
  have hs0 := strm_new (c := c) 25 hL hn
  have hg0 := gr_alloc (World.grownBy.refl w none) (.cells #[.slice A n c, .int .i64 0] 25)
  go_enter Tryz.func5, Tryz.ntmps5
  go_wp2_with fail
  refine (rightMesh_any _ 0 _ hs0 (by omega)).mono ?_
  rintro e w1 ⟨A1, c1, vs, B1, d1, fs, rfl, hl, hf, ho1, hM, hvl, hfl⟩
  replace hg0 := gr_new hg0 ho1.1 (Nat.le_refl _)
  replace hl := hl.mono (Nat.zero_le _)
  replace hf := hf.mono (Nat.zero_le _)
  clear ho1 hs0
  obtain ⟨f1, f2⟩ := over_flat hM
  obtain ⟨s1, s2⟩ := over_steep hM
  obtain ⟨m1, m2⟩ := over_mir hM
  have hM2 := meshF_mir hM
  obtain ⟨k1, -⟩ := over_flat hM2
  have hm2 := hf.1
  unfold maxLen at hm2
  replace hM := hide hM
  replace hM2 := hide hM2
  replace f1 := hide f1
  replace f2 := hide f2
  replace s1 := hide s1
  replace s2 := hide s2
  replace m1 := hide m1
  replace m2 := hide m2
  replace k1 := hide k1
  -- what is called
  have hO1 := fun w hl hf => overhangs_any A1 c1 vs B1 d1 fs 0 1 w hl hf (by omega) (by omega)
  have hO3 := fun w hl hf => overhangs_any A1 c1 vs B1 d1 fs 1 1 w hl hf (by omega) (by omega)
  have hMi := fun w hl hf => mirrored_any A1 c1 vs B1 d1 fs 2 w hl hf
  rw [f1.out] at hO1
  rw [s1.out] at hO3
  rw [m1.out] at hMi
  generalize hLa : overL ⟨vs, fs⟩ 0 1 = La at *
  generalize hLs : overL ⟨vs, fs⟩ 1 1 = Ls at *
  have hXl : Hid ((mirM ⟨vs, fs⟩ 2).fs.length = fs.length) := by simp [Hid, mirM]
  have hO2 := fun A c B d w hl hf => overhangs_any A c (mirM ⟨vs, fs⟩ 2).vs B d (mirM ⟨vs, fs⟩ 2).fs 0 1 w hl hf (by omega) (by omega)
  have hk1 : overF ⟨(mirM ⟨vs, fs⟩ 2).vs, (mirM ⟨vs, fs⟩ 2).fs⟩ 0 1 = 0 := k1.out
  rw [hk1] at hO2
  have hm2' : ∀ (i : Nat) (hi : i < fs.length), memB (overL ⟨(mirM ⟨vs, fs⟩ 2).vs, (mirM ⟨vs, fs⟩ 2).fs⟩ 0 1) i = decide (0 < (normV vs fs[i]).z) := m2.out
  clear m2 k1 hk1 m1 hM2
  generalize hLb : overL ⟨(mirM ⟨vs, fs⟩ 2).vs, (mirM ⟨vs, fs⟩ 2).fs⟩ 0 1 = Lb at *
  simp only at hMi
  unfold SMeshE at hMi
  generalize (mirM ⟨vs, fs⟩ 2).vs = xs at *
  generalize (mirM ⟨vs, fs⟩ 2).fs = gs at *
  replace hm2' := hide hm2'
  replace hO1 := hide hO1
  replace hO2 := hide hO2
  replace hO3 := hide hO3
  replace hMi := hide hMi
  clear hLa hLs hLb f1 s1
  obtain ⟨W, hW⟩ : ∃ W, W = (w1.alloc (.cells #[.slice A1 vs.length c1, .slice B1 fs.length d1] 29)).alloc (.cells #[.int .i64 0, .int .i64 1] 58) := ⟨_, rfl⟩
  have hgW : w1.grownBy W none := by rw [hW]; exact (by repeat (first | exact World.grownBy.refl _ _ | assumption | refine gr_alloc ?_ _ | (apply gr_tail; assumption) | refine gr_drewN ?_ _ | refine gr_drew ?_))
  have hWs : W.heap.size = w1.heap.size + 1 + 1 := by rw [hW]; simp
  have hB : ∀ wx, W.grownBy wx none → wx.cell? ⟨w1.heap.size, 0, none⟩ = some (.slice A1 vs.length c1) ∧ wx.cell? ⟨w1.heap.size, 1, none⟩ = some (.slice B1 fs.length d1) ∧ wx.cell? ⟨w1.heap.size + 1, 0, none⟩ = some (.int .i64 0) ∧ wx.cell? ⟨w1.heap.size + 1, 1, none⟩ = some (.int .i64 1) ∧ Sl wx 0 A1 vs ∧ Sl wx 0 B1 fs := fun wx h => ⟨h.k (by rw [hW]; go_simp), h.k (by rw [hW]; go_simp), h.k (by rw [hW]; go_simp), h.k (by rw [hW]; go_simp), (hl.pure hgW).pure h, (hf.pure hgW).pure h⟩
  replace hB := hide hB
  replace hg0 := gr_trans hg0 hgW
  clear hl hf hgW
  go_upto_region 4 with fail
  rw [← hW]
  clear hW
  generalize w1.heap.size = x1 at *
  clear w1
  replace hWs := hide hWs
  obtain ⟨e0, e1, e2, e3, e4, e5⟩ := hB.out W (World.grownBy.refl _ _)
  go_wp2_with fail
  refine (hO1.out _ e4 e5).mono ?_
  rintro e w2 ⟨A2, c2, rfl, sa, g2⟩
  clear e0 e1 e2 e3 e4 e5 hO1
  obtain ⟨e0, e1, e2, e3, e4, e5⟩ := hB.out w2 g2
  go_wp2_with fail
  refine (hMi.out _ e4 e5).mono ?_
  rintro e w3 ⟨A3, c3, B3, d3, rfl, sx, sy, g3⟩
  replace sa := sa.pure g3
  replace g3 := gr_trans g2 g3
  clear e0 e1 e2 e3 e4 e5 hMi g2
  obtain ⟨e0, e1, e2, e3, e4, e5⟩ := hB.out w3 g3
  replace sx := sx.mono (Nat.zero_le _)
  replace sy := sy.mono (Nat.zero_le _)
  have hq0 : x1 < w3.heap.size := cell_lt e0
  have hq1 : x1 + 1 < w3.heap.size := cell_lt e2
  have hal := gr_alloc (World.grownBy.refl w3 none) (.cells #[.slice A3 xs.length c3, .slice B3 gs.length d3] 29)
  go_wp2_with fail
  refine (hO2.out _ _ _ _ _ (sx.pure hal) (sy.pure hal)).mono ?_
  rintro e w4 ⟨A4, c4, rfl, sb, g4⟩
  replace g4 := gr_trans hal g4
  replace sa := sa.pure g4
  clear e0 e1 e2 e3 e4 e5 hal sx sy
  replace g4 := gr_trans g3 g4
  obtain ⟨e0, e1, e2, e3, e4, e5⟩ := hB.out w4 g4
  go_wp2_with fail
  refine (hO3.out _ e4 e5).mono ?_
  rintro e w5 ⟨A5, c5, rfl, sc, g5⟩
  replace sa := sa.pure g5
  replace sb := sb.pure g5
  clear e0 e1 e2 e3 e4 e5 hO2 hO3 g3
  replace g5 := gr_trans g4 g5
  clear g4
  obtain ⟨e0, e1, e2, e3, e4, e5⟩ := hB.out w5 g5
  go_wp2_with fail
  clear e0 e1 e2 e3 e4 e5
  have hX := gr_trans hg0 g5
  go_loopw [59] (fun i wr => ∃ k : Nat, k ≤ fs.length ∧ i = .int .i64 k ∧ w5.grownBy wr none) (fun i _ => fs.length - (intOf i).toNat)
  case atStart => exact ⟨0, Nat.zero_le _, rfl, World.grownBy.refl _ _⟩
  case round =>
    obtain ⟨k, hk, rfl, g6⟩ := hrel
    by_cases hlt : k < fs.length
    · obtain ⟨e0, e1, -, -, e4, e5⟩ := hB.out wr (gr_trans g5 g6)
      have hNo := hide (normalOk_any A1 c1 vs B1 d1 fs k wr e4 e5 hM.out hlt)
      have t1 := f2.out k hlt
      have t2 := hm2'.out k hlt
      have t3 := s2.out k hlt
      clear e4 e5
      generalize normV vs fs[k] = N at *
      go_wp2_with fail
      refine hNo.out.mono ?_
      rintro e w6 ⟨rfl, h6⟩
      clear hNo e0 e1
      replace g6 := gr_trans g6 h6
      clear h6
      replace t1 := hide t1
      replace t2 := hide t2
      replace t3 := hide t3
      obtain ⟨w7, hw7⟩ : ∃ w7, w7 = w6.alloc (.cells #[.int .i64 N.x, .int .i64 N.y, .int .i64 N.z] 64) := ⟨_, rfl⟩
      have b2 : w7.cell? ⟨w6.heap.size, 2, none⟩ = some (.int .i64 N.z) := by rw [hw7]; go_simp
      have h7 : w6.grownBy w7 none := by rw [hw7]; exact (by repeat (first | exact World.grownBy.refl _ _ | assumption | refine gr_alloc ?_ _ | (apply gr_tail; assumption) | refine gr_drewN ?_ _ | refine gr_drew ?_))
      replace hw7 := hide hw7.symm
      go_upto_region 16 with fail
      rw [hw7.out]
      clear hw7
      generalize w6.heap.size = y6 at *
      replace g6 := gr_trans g6 h7
      clear h7
      have hcA := fun W h => containsInt_any A2 c2 La k W h
      have hcB := fun W h => containsInt_any A4 c4 Lb k W h
      have hcC := fun W h => containsInt_any A5 c5 Ls k W h
      rw [t1.out] at hcA
      rw [t2.out] at hcB
      have sa7 := sa.pure (gr_drew g6)
      have sb7 := sb.pure (gr_drew g6)
      have sc7 := sc.pure (gr_drew g6)
      replace hcA := hide (hcA _ sa7)
      replace hcB := hide (hcB _ sb7)
      replace hcC := hide (hcC _ sc7)
      clear sa7 sb7 sc7
      cases hst : memB Ls k with
      | false =>
        rw [hst] at hcC
        clear t1 t2 t3 hst
        refine wp_region_tree (fun wx => wx.cell? ⟨y6, 2, none⟩ = some (.int .i64 N.z)) [2, 2, 2, 2, 1, 2, 2, 2, 0, 2, 2, 2, 2, 1, 2, 2, 2, 0, 2, 2, 2, 2, 2, 0, 2, 2, 1, 2, 2, 2] (.bl 0 (.bl 1 (.bl 2 (.bl 3 (.bl 4 (.bl 5 (.bl 6 (.bl 7 (.ef 8 (.bl 9 (.bl 10 (.bl 11 (.bl 12 (.bl 13 (.bl 14 (.bl 15 (.bl 16 (.ef 17 (.bl 18 (.bl 19 (.bl 20 (.bl 21 (.bl 22 (.ef 23 (.bl 24 (.bl 25 (.bl 26 (.bl 27 (.bl 28 (.bl 29 .done)))))))))))))))))))))))))))))) (by kernel_rfl) (by kernel_rfl) (b2) ?_
        refine tree_p rfl rfl rfl rfl _ rfl (by simp) (fun K hK => ?_)
        apply Exists.intro
        refine ⟨fun wq K' hK' => ?_, ?_⟩
        · go_wp2_with fail
          exact hK'
        go_simp
        refine hK _ ?_
        clear hK K
        refine tree_p rfl rfl rfl rfl _ rfl (by simp) (fun K hK => ?_)
        apply Exists.intro
        refine ⟨fun wq K' hK' => ?_, ?_⟩
        · go_wp2_with fail
          exact hK'
        go_simp
        refine hK _ ?_
        clear hK K
        refine tree_p rfl rfl rfl rfl _ rfl (by simp) (fun K hK => ?_)
        apply Exists.intro
        refine ⟨fun wq K' hK' => ?_, ?_⟩
        · go_wp2_with fail
          exact hK'
        go_simp
        refine hK _ ?_
        clear hK K
        refine tree_p rfl rfl rfl rfl _ rfl (by simp) (fun K hK => ?_)
        apply Exists.intro
        refine ⟨fun wq K' hK' => ?_, ?_⟩
        · go_wp2_with fail
          exact hK'
        go_simp
        refine hK _ ?_
        clear hK K
        refine tree_b rfl rfl rfl rfl _ rfl (by simp) (fun K hK => ?_)
        apply Exists.intro
        refine ⟨fun wq hq K' hK' => ?_, ?_⟩
        · go_wp2_with fail
          exact hK'
        go_simp
        refine hK _ ?_
        clear hK K
        refine tree_p rfl rfl rfl rfl _ rfl (by simp) (fun K hK => ?_)
        apply Exists.intro
        refine ⟨fun wq K' hK' => ?_, ?_⟩
        · go_wp2_with fail
          exact hK'
        go_simp
        refine hK _ ?_
        clear hK K
        refine tree_p rfl rfl rfl rfl _ rfl (by simp) (fun K hK => ?_)
        apply Exists.intro
        refine ⟨fun wq K' hK' => ?_, ?_⟩
        · go_wp2_with fail
          exact hK'
        go_simp
        refine hK _ ?_
        clear hK K
        refine tree_p rfl rfl rfl rfl _ rfl (by simp) (fun K hK => ?_)
        apply Exists.intro
        refine ⟨fun wq K' hK' => ?_, ?_⟩
        · go_wp2_with fail
          exact hK'
        go_simp
        refine hK _ ?_
        clear hK K
        refine tree_e rfl rfl (fun K hK => ?_)
        go_wp2_with fail
        refine hcA.out.mono ?_
        rintro e w9 ⟨rfl, rfl⟩
        go_wp2_with fail
        try go_simp
        refine hK _ _ (b2) ?_
        clear hK K
        refine tree_p rfl rfl rfl rfl _ rfl (by simp) (fun K hK => ?_)
        apply Exists.intro
        refine ⟨fun wq K' hK' => ?_, ?_⟩
        · go_wp2_with fail
          exact hK'
        go_simp
        refine hK _ ?_
        clear hK K
        refine tree_p rfl rfl rfl rfl _ rfl (by simp) (fun K hK => ?_)
        apply Exists.intro
        refine ⟨fun wq K' hK' => ?_, ?_⟩
        · go_wp2_with fail
          exact hK'
        go_simp
        refine hK _ ?_
        clear hK K
        refine tree_p rfl rfl rfl rfl _ rfl (by simp) (fun K hK => ?_)
        apply Exists.intro
        refine ⟨fun wq K' hK' => ?_, ?_⟩
        · go_wp2_with fail
          exact hK'
        go_simp
        refine hK _ ?_
        clear hK K
        refine tree_p rfl rfl rfl rfl _ rfl (by simp) (fun K hK => ?_)
        apply Exists.intro
        refine ⟨fun wq K' hK' => ?_, ?_⟩
        · go_wp2_with fail
          exact hK'
        go_simp
        refine hK _ ?_
        clear hK K
        refine tree_b rfl rfl rfl rfl _ rfl (by simp) (fun K hK => ?_)
        apply Exists.intro
        refine ⟨fun wq hq K' hK' => ?_, ?_⟩
        · go_wp2_with fail
          exact hK'
        go_simp
        refine hK _ ?_
        clear hK K
        refine tree_p rfl rfl rfl rfl _ rfl (by simp) (fun K hK => ?_)
        apply Exists.intro
        refine ⟨fun wq K' hK' => ?_, ?_⟩
        · go_wp2_with fail
          exact hK'
        go_simp
        refine hK _ ?_
        clear hK K
        refine tree_p rfl rfl rfl rfl _ rfl (by simp) (fun K hK => ?_)
        apply Exists.intro
        refine ⟨fun wq K' hK' => ?_, ?_⟩
        · go_wp2_with fail
          exact hK'
        go_simp
        refine hK _ ?_
        clear hK K
        refine tree_p rfl rfl rfl rfl _ rfl (by simp) (fun K hK => ?_)
        apply Exists.intro
        refine ⟨fun wq K' hK' => ?_, ?_⟩
        · go_wp2_with fail
          exact hK'
        go_simp
        refine hK _ ?_
        clear hK K
        refine tree_e rfl rfl (fun K hK => ?_)
        go_wp2_with fail
        refine hcB.out.mono ?_
        rintro e w9 ⟨rfl, rfl⟩
        go_wp2_with fail
        try go_simp
        refine hK _ _ (b2) ?_
        clear hK K
        refine tree_p rfl rfl rfl rfl _ rfl (by simp) (fun K hK => ?_)
        apply Exists.intro
        refine ⟨fun wq K' hK' => ?_, ?_⟩
        · go_wp2_with fail
          exact hK'
        go_simp
        refine hK _ ?_
        clear hK K
        refine tree_p rfl rfl rfl rfl _ rfl (by simp) (fun K hK => ?_)
        apply Exists.intro
        refine ⟨fun wq K' hK' => ?_, ?_⟩
        · go_wp2_with fail
          exact hK'
        go_simp
        refine hK _ ?_
        clear hK K
        refine tree_p rfl rfl rfl rfl _ rfl (by simp) (fun K hK => ?_)
        apply Exists.intro
        refine ⟨fun wq K' hK' => ?_, ?_⟩
        · go_wp2_with fail
          exact hK'
        go_simp
        refine hK _ ?_
        clear hK K
        refine tree_p rfl rfl rfl rfl _ rfl (by simp) (fun K hK => ?_)
        apply Exists.intro
        refine ⟨fun wq K' hK' => ?_, ?_⟩
        · go_wp2_with fail
          exact hK'
        go_simp
        refine hK _ ?_
        clear hK K
        refine tree_p rfl rfl rfl rfl _ rfl (by simp) (fun K hK => ?_)
        apply Exists.intro
        refine ⟨fun wq K' hK' => ?_, ?_⟩
        · go_wp2_with fail
          exact hK'
        go_simp
        refine hK _ ?_
        clear hK K
        refine tree_e rfl rfl (fun K hK => ?_)
        go_wp2_with fail
        refine hcC.out.mono ?_
        rintro e w9 ⟨rfl, rfl⟩
        go_wp2_with fail
        try go_simp
        refine hK _ _ (b2) ?_
        clear hK K
        refine tree_p rfl rfl rfl rfl _ rfl (by simp) (fun K hK => ?_)
        apply Exists.intro
        refine ⟨fun wq K' hK' => ?_, ?_⟩
        · go_wp2_with fail
          exact hK'
        go_simp
        refine hK _ ?_
        clear hK K
        refine tree_skip rfl rfl ?_
        try go_simp
        refine tree_skip rfl rfl ?_
        try go_simp
        refine tree_skip rfl rfl ?_
        try go_simp
        refine tree_p rfl rfl rfl rfl _ rfl (by simp) (fun K hK => ?_)
        apply Exists.intro
        refine ⟨fun wq K' hK' => ?_, ?_⟩
        · go_wp2_with fail
          exact hK'
        go_simp
        refine hK _ ?_
        clear hK K
        refine tree_p rfl rfl rfl rfl _ rfl (by simp) (fun K hK => ?_)
        apply Exists.intro
        refine ⟨fun wq K' hK' => ?_, ?_⟩
        · go_wp2_with fail
          exact hK'
        go_simp
        refine hK _ ?_
        clear hK K
        refine tree_done ?_
        go_wp2_with fail
        (go_roundw; (case rel => exact ⟨k + 1, by omega, by go_num, gr_drew g6⟩); (case measure => simp [intOf]; omega))
      | true =>
        have hz := t3.out hst
        rw [hst] at hcC
        have hz2 : Hid (decide (0 ≤ N.z) = false) := decide_eq_false (by omega)
        clear t1 t2 t3 hst hz
        refine wp_region_tree (fun wx => wx.cell? ⟨y6, 2, none⟩ = some (.int .i64 N.z)) [2, 2, 2, 2, 1, 2, 2, 2, 0, 2, 2, 2, 2, 1, 2, 2, 2, 0, 2, 2, 2, 2, 2, 0, 2, 2, 1, 2, 2, 2] (.bl 0 (.bl 1 (.bl 2 (.bl 3 (.bl 4 (.bl 5 (.bl 6 (.bl 7 (.ef 8 (.bl 9 (.bl 10 (.bl 11 (.bl 12 (.bl 13 (.bl 14 (.bl 15 (.bl 16 (.ef 17 (.bl 18 (.bl 19 (.bl 20 (.bl 21 (.bl 22 (.ef 23 (.bl 24 (.bl 25 (.bl 26 (.bl 27 (.bl 28 (.bl 29 .done)))))))))))))))))))))))))))))) (by kernel_rfl) (by kernel_rfl) (b2) ?_
        refine tree_p rfl rfl rfl rfl _ rfl (by simp) (fun K hK => ?_)
        apply Exists.intro
        refine ⟨fun wq K' hK' => ?_, ?_⟩
        · go_wp2_with fail
          exact hK'
        go_simp
        refine hK _ ?_
        clear hK K
        refine tree_p rfl rfl rfl rfl _ rfl (by simp) (fun K hK => ?_)
        apply Exists.intro
        refine ⟨fun wq K' hK' => ?_, ?_⟩
        · go_wp2_with fail
          exact hK'
        go_simp
        refine hK _ ?_
        clear hK K
        refine tree_p rfl rfl rfl rfl _ rfl (by simp) (fun K hK => ?_)
        apply Exists.intro
        refine ⟨fun wq K' hK' => ?_, ?_⟩
        · go_wp2_with fail
          exact hK'
        go_simp
        refine hK _ ?_
        clear hK K
        refine tree_p rfl rfl rfl rfl _ rfl (by simp) (fun K hK => ?_)
        apply Exists.intro
        refine ⟨fun wq K' hK' => ?_, ?_⟩
        · go_wp2_with fail
          exact hK'
        go_simp
        refine hK _ ?_
        clear hK K
        refine tree_b rfl rfl rfl rfl _ rfl (by simp) (fun K hK => ?_)
        apply Exists.intro
        refine ⟨fun wq hq K' hK' => ?_, ?_⟩
        · go_wp2_with fail
          exact hK'
        go_simp
        refine hK _ ?_
        clear hK K
        refine tree_p rfl rfl rfl rfl _ rfl (by simp) (fun K hK => ?_)
        apply Exists.intro
        refine ⟨fun wq K' hK' => ?_, ?_⟩
        · go_wp2_with fail
          exact hK'
        go_simp
        refine hK _ ?_
        clear hK K
        refine tree_p rfl rfl rfl rfl _ rfl (by simp) (fun K hK => ?_)
        apply Exists.intro
        refine ⟨fun wq K' hK' => ?_, ?_⟩
        · go_wp2_with fail
          exact hK'
        go_simp
        refine hK _ ?_
        clear hK K
        refine tree_p rfl rfl rfl rfl _ rfl (by simp) (fun K hK => ?_)
        apply Exists.intro
        refine ⟨fun wq K' hK' => ?_, ?_⟩
        · go_wp2_with fail
          exact hK'
        go_simp
        refine hK _ ?_
        clear hK K
        refine tree_e rfl rfl (fun K hK => ?_)
        go_wp2_with fail
        refine hcA.out.mono ?_
        rintro e w9 ⟨rfl, rfl⟩
        go_wp2_with fail
        try go_simp
        refine hK _ _ (b2) ?_
        clear hK K
        refine tree_p rfl rfl rfl rfl _ rfl (by simp) (fun K hK => ?_)
        apply Exists.intro
        refine ⟨fun wq K' hK' => ?_, ?_⟩
        · go_wp2_with fail
          exact hK'
        go_simp
        refine hK _ ?_
        clear hK K
        refine tree_p rfl rfl rfl rfl _ rfl (by simp) (fun K hK => ?_)
        apply Exists.intro
        refine ⟨fun wq K' hK' => ?_, ?_⟩
        · go_wp2_with fail
          exact hK'
        go_simp
        refine hK _ ?_
        clear hK K
        refine tree_p rfl rfl rfl rfl _ rfl (by simp) (fun K hK => ?_)
        apply Exists.intro
        refine ⟨fun wq K' hK' => ?_, ?_⟩
        · go_wp2_with fail
          exact hK'
        go_simp
        refine hK _ ?_
        clear hK K
        refine tree_p rfl rfl rfl rfl _ rfl (by simp) (fun K hK => ?_)
        apply Exists.intro
        refine ⟨fun wq K' hK' => ?_, ?_⟩
        · go_wp2_with fail
          exact hK'
        go_simp
        refine hK _ ?_
        clear hK K
        refine tree_b rfl rfl rfl rfl _ rfl (by simp) (fun K hK => ?_)
        apply Exists.intro
        refine ⟨fun wq hq K' hK' => ?_, ?_⟩
        · go_wp2_with fail
          exact hK'
        go_simp
        refine hK _ ?_
        clear hK K
        refine tree_p rfl rfl rfl rfl _ rfl (by simp) (fun K hK => ?_)
        apply Exists.intro
        refine ⟨fun wq K' hK' => ?_, ?_⟩
        · go_wp2_with fail
          exact hK'
        go_simp
        refine hK _ ?_
        clear hK K
        refine tree_p rfl rfl rfl rfl _ rfl (by simp) (fun K hK => ?_)
        apply Exists.intro
        refine ⟨fun wq K' hK' => ?_, ?_⟩
        · go_wp2_with fail
          exact hK'
        go_simp
        refine hK _ ?_
        clear hK K
        refine tree_p rfl rfl rfl rfl _ rfl (by simp) (fun K hK => ?_)
        apply Exists.intro
        refine ⟨fun wq K' hK' => ?_, ?_⟩
        · go_wp2_with fail
          exact hK'
        go_simp
        refine hK _ ?_
        clear hK K
        refine tree_e rfl rfl (fun K hK => ?_)
        go_wp2_with fail
        refine hcB.out.mono ?_
        rintro e w9 ⟨rfl, rfl⟩
        go_wp2_with fail
        try go_simp
        refine hK _ _ (b2) ?_
        clear hK K
        refine tree_p rfl rfl rfl rfl _ rfl (by simp) (fun K hK => ?_)
        apply Exists.intro
        refine ⟨fun wq K' hK' => ?_, ?_⟩
        · go_wp2_with fail
          exact hK'
        go_simp
        refine hK _ ?_
        clear hK K
        refine tree_p rfl rfl rfl rfl _ rfl (by simp) (fun K hK => ?_)
        apply Exists.intro
        refine ⟨fun wq K' hK' => ?_, ?_⟩
        · go_wp2_with fail
          exact hK'
        go_simp
        refine hK _ ?_
        clear hK K
        refine tree_p rfl rfl rfl rfl _ rfl (by simp) (fun K hK => ?_)
        apply Exists.intro
        refine ⟨fun wq K' hK' => ?_, ?_⟩
        · go_wp2_with fail
          exact hK'
        go_simp
        refine hK _ ?_
        clear hK K
        refine tree_p rfl rfl rfl rfl _ rfl (by simp) (fun K hK => ?_)
        apply Exists.intro
        refine ⟨fun wq K' hK' => ?_, ?_⟩
        · go_wp2_with fail
          exact hK'
        go_simp
        refine hK _ ?_
        clear hK K
        refine tree_p rfl rfl rfl rfl _ rfl (by simp) (fun K hK => ?_)
        apply Exists.intro
        refine ⟨fun wq K' hK' => ?_, ?_⟩
        · go_wp2_with fail
          exact hK'
        go_simp
        refine hK _ ?_
        clear hK K
        refine tree_e rfl rfl (fun K hK => ?_)
        go_wp2_with fail
        refine hcC.out.mono ?_
        rintro e w9 ⟨rfl, rfl⟩
        go_wp2_with fail
        try go_simp
        refine hK _ _ (b2) ?_
        clear hK K
        refine tree_p rfl rfl rfl rfl _ rfl (by simp) (fun K hK => ?_)
        apply Exists.intro
        refine ⟨fun wq K' hK' => ?_, ?_⟩
        · go_wp2_with fail
          exact hK'
        go_simp
        refine hK _ ?_
        clear hK K
        refine tree_p rfl rfl rfl rfl _ rfl (by simp) (fun K hK => ?_)
        apply Exists.intro
        refine ⟨fun wq K' hK' => ?_, ?_⟩
        · go_wp2_with fail
          exact hK'
        go_simp
        refine hK _ ?_
        clear hK K
        refine tree_b rfl rfl rfl rfl _ rfl (by simp) (fun K hK => ?_)
        apply Exists.intro
        refine ⟨fun wq hq K' hK' => ?_, ?_⟩
        · go_wp2_with fail
          exact hK'
        go_simp
        refine hK _ ?_
        clear hK K
        refine tree_p rfl rfl rfl rfl _ rfl (by simp) (fun K hK => ?_)
        apply Exists.intro
        refine ⟨fun wq K' hK' => ?_, ?_⟩
        · have hz3 := hz2.out
          go_wp2_with fail
          exact hK'
        go_simp
        refine hK _ ?_
        clear hK K
        refine tree_p rfl rfl rfl rfl _ rfl (by simp) (fun K hK => ?_)
        apply Exists.intro
        refine ⟨fun wq K' hK' => ?_, ?_⟩
        · go_wp2_with fail
          exact hK'
        go_simp
        refine hK _ ?_
        clear hK K
        refine tree_p rfl rfl rfl rfl _ rfl (by simp) (fun K hK => ?_)
        apply Exists.intro
        refine ⟨fun wq K' hK' => ?_, ?_⟩
        · go_wp2_with fail
          exact hK'
        go_simp
        refine hK _ ?_
        clear hK K
        refine tree_done ?_
        go_wp2_with fail
        (go_roundw; (case rel => exact ⟨k + 1, by omega, by go_num, gr_drew g6⟩); (case measure => simp [intOf]; omega))
    · go_wp2_with fail
      refine (ready_any _).mono ?_
      rintro e w9 ⟨rfl, h1⟩
      go_wp2_with fail
      go_ret
      exact ⟨rfl, gr_trans hX (gr_trans g6 h1)⟩

end Go.Proofs.YtbgailgclflaeaaGreatDoor
