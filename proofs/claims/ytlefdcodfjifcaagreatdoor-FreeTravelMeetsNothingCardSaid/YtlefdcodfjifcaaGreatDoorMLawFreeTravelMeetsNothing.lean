/- Contracts of functions that this seat's laws reach, each: what one call returns and what it leaves in memory; no condition beyond each theorem's own hypotheses. -/
import Derived.Test.YtlefdcodfjifcaaGreatDoorMReady
import Derived.Test.YtlefdcodfjifcaaGreatDoorMRightP
import Derived.Test.YtlefdcodfjifcaaGreatDoorMNearData
import Derived.Test.YtlefdcodfjifcaaGreatDoorMNearB
import Derived.Test.YtlefdcodfjifcaaGreatDoorMRetrA
import Derived.Test.YtlefdcodfjifcaaGreatDoorMSlices
import Derived.BigQuiet
set_option linter.unusedVariables false
set_option linter.unusedSimpArgs false
namespace Go.Proofs.YtlefdcodfjifcaaGreatDoor
open Go Go.RowKit Go.Bl

set_option maxHeartbeats 4000000 in
set_option maxRecDepth 100000 in
theorem freeTravel_law (A : Option Addr) (n c : Nat) (L : List Int) (w : World) (hL : Sl w 0 A L) (hn : L.length = n) :
    Calls Tryz.prog 5 #[.slice A n c] w fun e w' => e = .returned (.bool true) ∧ w.grownBy w' none := by
  have hs0 := strm_new (c := c) 25 hL hn
  have hg0 := gr_alloc (World.grownBy.refl w none) (.cells #[.slice A n c, .int .i64 0] 25)
  go_enter Tryz.func5, Tryz.ntmps5
  go_wp2_with fail
  refine (range_any _ 0 (-3) 9 _ hs0 (by omega) (by omega) (by omega) (by omega)).mono ?_
  rintro e w1 ⟨x, rfl, ⟨hx1, hx2⟩, ho1⟩
  go_wp2_with fail
  refine (range_any _ _ (-3) 9 _ ho1.2 (by omega) (by omega) (by omega) (by omega)).mono ?_
  rintro e w2 ⟨y, rfl, ⟨hy1, hy2⟩, ho2⟩
  replace ho2 := ho1.trans ho2
  go_wp2_with fail
  refine (rightPaths_any _ _ 5 _ ho2.2 (by omega) (by omega)).mono ?_
  rintro e w3 ⟨l, A1, c1, rfl, hl, hp, -, -, ho3⟩
  replace ho3 := ho2.trans ho3
  replace hl := hl.mono (Nat.zero_le _)
  have hst : near ⟨x, y⟩ := by unfold near; simp only; omega
  have hsf : farP ⟨x, y⟩ = false := by simp [farP, outB]; omega
  have hNe := fun W h => nearest_any A1 c1 l ⟨x, y⟩ W h hp hst hsf
  have hOr := near_order hp ⟨x, y⟩
  have hge := gr_new hg0 ho3.1 (Nat.le_refl _)
  clear ho1 ho2 ho3 hs0 hg0 hx1 hx2 hy1 hy2 hp
  generalize (nearK l ⟨x, y⟩ l.length).1 = o at *
  obtain ⟨-, hol, hov⟩ := orderF_zero hOr
  have hom : o.length ≤ 200 := by have := (orderF_zero hOr).1; omega
  clear hol
  have hR1 := fun B d W h1 h2 => retr0_any A1 c1 l B d o ⟨x, y⟩ 1000000 W h1 h2 hst hsf hOr (by omega)
  have hR2 := fun B d W h1 h2 => retr0_any A1 c1 l B d o ⟨x, y⟩ 0 W h1 h2 hst hsf hOr (by omega)
  rw [retK_far hst hov o.length (Nat.le_refl _)] at hR1
  have hmem : ∀ k (hk : k < o.length), memB (retK l ⟨x, y⟩ o 0 o.length) k = decide (eA l o[k] ≠ (travS l ⟨x, y⟩ (o.take k)).1) := fun k hk => by
    unfold memB
    rw [decide_eq_decide, retK_mem, List.getD_eq_getElem?_getD, List.getElem?_eq_getElem hk, Option.getD_some, distP_zero]
    exact ⟨fun h => h.2, fun h => ⟨hk, h⟩⟩
  have hone := one_of_order hOr
  have hstep : ∀ k (hk : k < o.length), (travS l ⟨x, y⟩ (o.take (k + 1))).1 = eB l o[k] := fun k hk => by rw [take_snoc hk, travS_snoc]
  have hpos0 : (travS l ⟨x, y⟩ (o.take 0)).1 = ⟨x, y⟩ := rfl
  generalize retK l ⟨x, y⟩ o 0 o.length = R at *
  generalize (travS l ⟨x, y⟩ o).2 = tv at *
  obtain ⟨pos, hpd⟩ : ∃ pos : Nat → Pt, pos = fun k => (travS l ⟨x, y⟩ (o.take k)).1 := ⟨_, rfl⟩
  have hmem2 : ∀ k (hk : k < o.length), memB R k = decide (eA l o[k] ≠ pos k) := fun k hk => by rw [hpd]; exact hmem k hk
  have hstep2 : ∀ k (hk : k < o.length), pos (k + 1) = eB l o[k] := fun k hk => by rw [hpd]; exact hstep k hk
  have hpos2 : pos 0 = ⟨x, y⟩ := by rw [hpd]; exact hpos0
  clear hpd hmem hstep hpos0 hst hsf hOr hov
  replace hNe := hide hNe
  replace hR1 := hide hR1
  replace hR2 := hide hR2
  replace hmem2 := hide hmem2
  replace hstep2 := hide hstep2
  replace hpos2 := hide hpos2
  replace hone := hide hone
  simp only at hNe
  obtain ⟨W, hW⟩ : ∃ W, W = w3.alloc (.cells [.int .i64 x, .int .i64 y].toArray 68) := ⟨_, rfl⟩
  have hB0 : Box W w3.heap.size 68 [.int .i64 x, .int .i64 y] := by rw [hW]; exact Box.new _ _ _
  have hgW : w3.grownBy W none := by rw [hW]; exact gr_alloc (World.grownBy.refl _ _) _
  replace hW := hide hW.symm
  go_upto_region 3 with fail
  rw [show w3.alloc (.cells #[.int .i64 x, .int .i64 y] 68) = W from hW.out]
  clear hW
  have hsz3 := hge.size
  obtain ⟨gs, hgs⟩ : ∃ x, x = w3.heap.size := ⟨_, rfl⟩
  rw [← hgs] at hB0 hsz3 ⊢
  have hgsl : w3.heap.size ≤ gs := by omega
  clear hgs
  have hsW : gs + 1 ≤ W.heap.size := hB0.lt
  have hlW := hl.pure hgW
  have hgeW := hgW
  clear hgW
  obtain ⟨s0, -⟩ := hB0.c 0 rfl
  obtain ⟨s1, -⟩ := hB0.c 1 rfl
  go_wp2_with fail
  refine (hNe.out _ hlW).mono ?_
  rintro e w4 ⟨A5, c5, rfl, hO, h4⟩
  replace hO := hO.lower hsW
  have hs5 := hO.sl.mono (Nat.zero_le _)
  have hl4 := hlW.pure h4
  have hB4 := hB0.pure h4
  replace hgeW := gr_trans hgeW h4
  have hsW4 := Nat.le_trans hsW h4.size
  clear hNe hlW hB0 h4 s0 s1 hsW
  obtain ⟨s0, -⟩ := hB4.c 0 rfl
  obtain ⟨s1, -⟩ := hB4.c 1 rfl
  go_wp2_with fail
  refine (hR1.out A5 c5 _ hl4 hs5).mono ?_
  rintro e w5 ⟨A6, c6, rfl, -, h5⟩
  have hl5 := hl4.pure h5
  have hB5 := hB4.pure h5
  replace hO := hO.pure h5
  replace hs5 := hs5.pure h5
  replace hgeW := gr_trans hgeW h5
  have hsW5 := Nat.le_trans hsW4 h5.size
  clear hR1 hl4 hB4 h5 s0 s1 hsW4
  obtain ⟨s0, -⟩ := hB5.c 0 rfl
  obtain ⟨s1, -⟩ := hB5.c 1 rfl
  go_wp2_with fail
  refine (hR2.out A5 c5 _ hl5 hs5).mono ?_
  rintro e w6 ⟨A7, c7, rfl, hRs, h6⟩
  replace hRs := hRs.lower hsW5
  have hB6 := hB5.pure h6
  replace hO := hO.pure h6
  replace hgeW := gr_trans hgeW h6
  clear hR2 hl5 hB5 h6 s0 s1 hs5 hsW5
  go_wp2_with fail
  go_loopw [66] (fun i wr => ∃ k : Nat, k ≤ o.length ∧ i = .int .i64 k ∧ Box wr gs 68 [.int .i64 (pos k).x, .int .i64 (pos k).y] ∧ w3.grownBy wr none ∧ Own wr (gs + 1) 74 A5 c5 o ∧ Own wr (gs + 1) 3 A7 c7 R) (fun i _ => o.length - (intOf i).toNat)
  case atStart => exact ⟨0, Nat.zero_le _, rfl, by rw [hpos2.out]; exact hB6, hgeW, hO, hRs⟩
  case round =>
    obtain ⟨k, hk, rfl, hB, hg, hOs, hOR⟩ := hrel
    clear hB6 hgeW hO hRs
    by_cases hlt : k < o.length
    · have h1 := hone.out _ (List.getElem_mem hlt)
      have hm := hide (hmem2.out k hlt)
      have hst := hide (hstep2.out k hlt)
      have hEn := fun W h => endsGo_any A1 c1 l o[k] W h
      rw [show eAO l o[k] = eA l o[k] by unfold eAO; rw [if_pos h1], show eBO l o[k] = eB l o[k] by unfold eBO; rw [if_pos h1], h1] at hEn
      replace hEn := hide hEn
      clear h1
      obtain ⟨gv, ov, cx, rfl, hb0, hb1, rfl, hc⟩ := hOs.sl.at_ (by decide) hlt
      have v0 : wr.cell? ⟨gv, ov + k * 3, none⟩ = some (.int .i64 o[k].path) := hc 0 _ rfl
      have v1 : wr.cell? ⟨gv, ov + k * 3 + 1, none⟩ = some (.int .i64 o[k].start) := hc 1 _ rfl
      have v2 : wr.cell? ⟨gv, ov + k * 3 + 2, none⟩ = some (.bool o[k].back) := hc 2 _ rfl
      clear hc
      generalize eA l o[k] = pa at *
      generalize eB l o[k] = pb at *
      generalize o[k] = v at *
      go_wp2_with fail
      refine (hEn.out _ (hl.pure (gr_alloc hg _))).mono ?_
      rintro e w7 ⟨rfl, h7⟩
      replace h7 := gr_trans (gr_alloc (World.grownBy.refl wr none) (.cells #[.int .i64 v.path, .int .i64 v.start, .bool v.back] 74)) h7
      replace hB := hB.pure h7
      replace hg := gr_trans hg h7
      replace hOs := hOs.pure h7
      replace hOR := hOR.pure h7
      clear hEn v0 v1 v2 h7
      generalize pos k = pp at *
      obtain ⟨bm, hbm⟩ : ∃ bm, bm = decide (pa ≠ pp) := ⟨_, rfl⟩
      rw [← hbm] at hm
      replace hbm := hide hbm
      obtain ⟨W8, hW8⟩ : ∃ W8, W8 = (w7.alloc (.cells [.int .i64 pa.x, .int .i64 pa.y].toArray 68)).alloc (.cells [.int .i64 pb.x, .int .i64 pb.y].toArray 68) := ⟨_, rfl⟩
      have h8 : w7.grownBy W8 none := by rw [hW8]; exact (by repeat (first | exact World.grownBy.refl _ _ | assumption | refine gr_alloc ?_ _ | (apply gr_tail; assumption) | refine gr_drewN ?_ _ | refine gr_drew ?_))
      have a0 : W8.cell? ⟨w7.heap.size, 0, none⟩ = some (.int .i64 pa.x) := by rw [hW8]; go_simp
      have a1 : W8.cell? ⟨w7.heap.size, 1, none⟩ = some (.int .i64 pa.y) := by rw [hW8]; go_simp
      have b0 : W8.cell? ⟨w7.heap.size + 1, 0, none⟩ = some (.int .i64 pb.x) := by rw [hW8]; go_simp
      have b1 : W8.cell? ⟨w7.heap.size + 1, 1, none⟩ = some (.int .i64 pb.y) := by rw [hW8]; go_simp
      replace hW8 := hide hW8.symm
      have hgs7 : gs < w7.heap.size := hB.lt
      go_upto_region 12 with fail
      rw [show (w7.alloc (.cells #[.int .i64 pa.x, .int .i64 pa.y] 68)).alloc (.cells #[.int .i64 pb.x, .int .i64 pb.y] 68) = W8 from hW8.out]
      clear hW8
      have hgb : w7.heap.size + 1 ≠ gs := by omega
      generalize w7.heap.size + 1 = gb at *
      generalize w7.heap.size = ga at *
      replace hB := hB.pure h8
      replace hg := gr_trans hg h8
      replace hOs := hOs.pure h8
      replace hOR := hOR.pure h8
      have hR := hOR.sl.mono (Nat.zero_le _)
      clear h8
      have hLk : ∀ wx, W8.grownBy wx none → (wx.cell? ⟨ga, 0, none⟩ = some (.int .i64 pa.x) ∧ wx.cell? ⟨ga, 1, none⟩ = some (.int .i64 pa.y)) ∧ wx.cell? ⟨gs, 0, none⟩ = some (.int .i64 pp.x) ∧ wx.cell? ⟨gs, 1, none⟩ = some (.int .i64 pp.y) := fun wx h => ⟨⟨h.k a0, h.k a1⟩, ((hB.pure h).c 0 rfl).1, ((hB.pure h).c 1 rfl).1⟩
      have hCt := hide fun W h => containsInt_any A7 c7 R k W h
      replace hLk := hide hLk
      clear a0 a1
      have hbm2 : bm = !(decide (pa.x = pp.x) && decide (pa.y = pp.y)) := by
        rw [hbm.out]
        obtain ⟨px, py⟩ := pa
        obtain ⟨qx, qy⟩ := pp
        simp
      clear hbm
      generalize pa.x = ax at *
      generalize pa.y = ay at *
      generalize pp.x = qx at *
      generalize pp.y = qy at *
      by_cases hx : ax = qx
      · subst hx
        by_cases hy : ay = qy
        · subst hy
          have hbf : bm = false := by rw [hbm2]; simp
          subst hbf
          clear hbm2
          refine wp_region_tree (fun wx => W8.grownBy wx none) [2, 2, 2, 2, 2, 0, 1, 1, 2, 2, 2] (.bl 0 (.bl 1 (.bl 2 (.bl 3 (.bl 4 (.bl 6 (.bl 7 (.bl 8 (.ef 5 (.bl 9 (.bl 10 .done))))))))))) (by kernel_rfl) (by kernel_rfl) (gr_drew (World.grownBy.refl _ _)) ?_
          obtain ⟨wd, hwd⟩ : ∃ x, x = (W8).drew := ⟨_, rfl⟩
          rw [← hwd]
          have hgwd : (W8).grownBy wd none := by rw [hwd]; exact gr_drew (World.grownBy.refl _ _)
          clear hwd
          refine tree_p rfl rfl rfl rfl _ rfl (by simp) (fun K hK => ?_)
          apply Exists.intro
          refine ⟨fun wq K' hK' => ?_, ?_⟩
          · go_wp2_with fail
            exact hK'
          go_simp
          refine hK _ ?_
          clear hK K
          refine tree_p rfl rfl rfl rfl _ rfl (by simp) (fun K hK => ?_)
          apply Exists.intro
          refine ⟨fun wq K' hK' => ?_, ?_⟩
          · go_wp2_with fail
            exact hK'
          go_simp
          refine hK _ ?_
          clear hK K
          refine tree_p rfl rfl rfl rfl _ rfl (by simp) (fun K hK => ?_)
          apply Exists.intro
          refine ⟨fun wq K' hK' => ?_, ?_⟩
          · go_wp2_with fail
            exact hK'
          go_simp
          refine hK _ ?_
          clear hK K
          refine tree_p rfl rfl rfl rfl _ rfl (by simp) (fun K hK => ?_)
          apply Exists.intro
          refine ⟨fun wq K' hK' => ?_, ?_⟩
          · go_wp2_with fail
            exact hK'
          go_simp
          refine hK _ ?_
          clear hK K
          refine tree_p rfl rfl rfl rfl _ rfl (by simp) (fun K hK => ?_)
          apply Exists.intro
          refine ⟨fun wq K' hK' => ?_, ?_⟩
          · go_wp2_with fail
            exact hK'
          go_simp
          refine hK _ ?_
          clear hK K
          refine tree_b rfl rfl rfl rfl _ rfl (by simp) (fun K hK => ?_)
          apply Exists.intro
          refine ⟨fun wq hq K' hK' => ?_, ?_⟩
          · obtain ⟨⟨d0, d1⟩, d2, d3⟩ := hLk.out wq hq
            go_wp2_with fail
            exact hK'
          go_simp
          refine hK _ ?_
          clear hK K
          refine tree_b rfl rfl rfl rfl _ rfl (by simp) (fun K hK => ?_)
          apply Exists.intro
          refine ⟨fun wq hq K' hK' => ?_, ?_⟩
          · obtain ⟨⟨d0, d1⟩, d2, d3⟩ := hLk.out wq hq
            go_wp2_with fail
            exact hK'
          go_simp
          refine hK _ ?_
          clear hK K
          refine tree_p rfl rfl rfl rfl _ rfl (by simp) (fun K hK => ?_)
          apply Exists.intro
          refine ⟨fun wq K' hK' => ?_, ?_⟩
          · go_wp2_with fail
            exact hK'
          go_simp
          refine hK _ ?_
          clear hK K
          refine tree_e rfl rfl (fun K hK => ?_)
          go_wp2_with fail
          refine (hCt.out _ (hR.pure hgwd)).mono ?_
          rintro e w5 ⟨rfl, rfl⟩
          rw [hm.out]
          go_wp2_with fail
          try go_simp
          refine hK _ _ (hgwd) ?_
          clear hK K
          refine tree_p rfl rfl rfl rfl _ rfl (by simp) (fun K hK => ?_)
          apply Exists.intro
          refine ⟨fun wq K' hK' => ?_, ?_⟩
          · go_wp2_with fail
            exact hK'
          go_simp
          refine hK _ ?_
          clear hK K
          refine tree_p rfl rfl rfl rfl _ rfl (by simp) (fun K hK => ?_)
          apply Exists.intro
          refine ⟨fun wq K' hK' => ?_, ?_⟩
          · go_wp2_with fail
            exact hK'
          go_simp
          refine hK _ ?_
          clear hK K
          refine tree_done ?_
          have hBd := hB.pure hgwd
          have hOs2 := hOs.pure hgwd
          have hOR2 := hOR.pure hgwd
          obtain ⟨s0, z0⟩ := hBd.c 0 rfl
          obtain ⟨s1, z1⟩ := hBd.c 1 rfl
          have e0 := hgwd.k b0
          have e1 := hgwd.k b1
          have hB9 := hBd.set_ 0 (.int .i64 pb.x) (by simp)
          have hOs9 := hOs2.set_other (i := 0) (.int .i64 pb.x) (hBd.ne_own hOs2 (by decide))
          have hOR9 := hOR2.set_other (i := 0) (.int .i64 pb.x) (hBd.ne_own hOR2 (by decide))
          have hB10 := hide (hB9.set_ 1 (.int .i64 pb.y) (by simp))
          have hOs10 := hide (hOs9.set_other (i := 1) (.int .i64 pb.y) (hB9.ne_own hOs9 (by decide)))
          have hOR10 := hide (hOR9.set_other (i := 1) (.int .i64 pb.y) (hB9.ne_own hOR9 (by decide)))
          have hgz := hide (gr_set (gr_set (gr_trans hg hgwd) (p := ⟨gs, 0, none⟩) (.inr hgsl) (.int .i64 pb.x)) (p := ⟨gs, 1, none⟩) (.inr hgsl) (.int .i64 pb.y))
          clear hB9 hOs9 hOR9 hBd hOs2 hOR2 b0 b1 hLk hCt
          go_wp2_with fail
          refine ⟨⟨k + 1, by omega, by go_num, by rw [hst.out]; exact hB10.out, hgz.out, hOs10.out, hOR10.out⟩, by simp [intOf]; omega⟩
        · have hbf : bm = true := by rw [hbm2]; simp [hy]
          subst hbf
          have hyb : (ay == qy) = false := by simp [hy]
          have hyd : decide (ay = qy) = false := by simp [hy]
          clear hbm2
          refine wp_region_tree (fun wx => W8.grownBy wx none) [2, 2, 2, 2, 2, 0, 1, 1, 2, 2, 2] (.bl 0 (.bl 1 (.bl 2 (.bl 3 (.bl 4 (.bl 6 (.bl 7 (.bl 8 (.ef 5 (.bl 9 (.bl 10 .done))))))))))) (by kernel_rfl) (by kernel_rfl) (gr_drew (World.grownBy.refl _ _)) ?_
          obtain ⟨wd, hwd⟩ : ∃ x, x = (W8).drew := ⟨_, rfl⟩
          rw [← hwd]
          have hgwd : (W8).grownBy wd none := by rw [hwd]; exact gr_drew (World.grownBy.refl _ _)
          clear hwd
          refine tree_p rfl rfl rfl rfl _ rfl (by simp) (fun K hK => ?_)
          apply Exists.intro
          refine ⟨fun wq K' hK' => ?_, ?_⟩
          · go_wp2_with fail
            exact hK'
          go_simp
          refine hK _ ?_
          clear hK K
          refine tree_p rfl rfl rfl rfl _ rfl (by simp) (fun K hK => ?_)
          apply Exists.intro
          refine ⟨fun wq K' hK' => ?_, ?_⟩
          · go_wp2_with fail
            exact hK'
          go_simp
          refine hK _ ?_
          clear hK K
          refine tree_p rfl rfl rfl rfl _ rfl (by simp) (fun K hK => ?_)
          apply Exists.intro
          refine ⟨fun wq K' hK' => ?_, ?_⟩
          · go_wp2_with fail
            exact hK'
          go_simp
          refine hK _ ?_
          clear hK K
          refine tree_p rfl rfl rfl rfl _ rfl (by simp) (fun K hK => ?_)
          apply Exists.intro
          refine ⟨fun wq K' hK' => ?_, ?_⟩
          · go_wp2_with fail
            exact hK'
          go_simp
          refine hK _ ?_
          clear hK K
          refine tree_p rfl rfl rfl rfl _ rfl (by simp) (fun K hK => ?_)
          apply Exists.intro
          refine ⟨fun wq K' hK' => ?_, ?_⟩
          · go_wp2_with fail
            exact hK'
          go_simp
          refine hK _ ?_
          clear hK K
          refine tree_b rfl rfl rfl rfl _ rfl (by simp) (fun K hK => ?_)
          apply Exists.intro
          refine ⟨fun wq hq K' hK' => ?_, ?_⟩
          · obtain ⟨⟨d0, d1⟩, d2, d3⟩ := hLk.out wq hq
            go_wp2_with fail
            exact hK'
          go_simp
          refine hK _ ?_
          clear hK K
          refine tree_b rfl rfl rfl rfl _ rfl (by simp) (fun K hK => ?_)
          apply Exists.intro
          refine ⟨fun wq hq K' hK' => ?_, ?_⟩
          · obtain ⟨⟨d0, d1⟩, d2, d3⟩ := hLk.out wq hq
            go_wp2_with fail
            exact hK'
          go_simp
          refine hK _ ?_
          clear hK K
          refine tree_p rfl rfl rfl rfl _ rfl (by simp) (fun K hK => ?_)
          apply Exists.intro
          refine ⟨fun wq K' hK' => ?_, ?_⟩
          · go_wp2_with fail
            exact hK'
          go_simp
          refine hK _ ?_
          clear hK K
          refine tree_e rfl rfl (fun K hK => ?_)
          go_wp2_with fail
          refine (hCt.out _ (hR.pure hgwd)).mono ?_
          rintro e w5 ⟨rfl, rfl⟩
          rw [hm.out]
          go_wp2_with fail
          try go_simp
          refine hK _ _ (hgwd) ?_
          clear hK K
          refine tree_p rfl rfl rfl rfl _ rfl (by simp) (fun K hK => ?_)
          apply Exists.intro
          refine ⟨fun wq K' hK' => ?_, ?_⟩
          · go_wp2_with fail
            exact hK'
          go_simp
          refine hK _ ?_
          clear hK K
          refine tree_p rfl rfl rfl rfl _ rfl (by simp) (fun K hK => ?_)
          apply Exists.intro
          refine ⟨fun wq K' hK' => ?_, ?_⟩
          · go_wp2_with fail
            exact hK'
          go_simp
          refine hK _ ?_
          clear hK K
          refine tree_done ?_
          have hBd := hB.pure hgwd
          have hOs2 := hOs.pure hgwd
          have hOR2 := hOR.pure hgwd
          obtain ⟨s0, z0⟩ := hBd.c 0 rfl
          obtain ⟨s1, z1⟩ := hBd.c 1 rfl
          have e0 := hgwd.k b0
          have e1 := hgwd.k b1
          have hB9 := hBd.set_ 0 (.int .i64 pb.x) (by simp)
          have hOs9 := hOs2.set_other (i := 0) (.int .i64 pb.x) (hBd.ne_own hOs2 (by decide))
          have hOR9 := hOR2.set_other (i := 0) (.int .i64 pb.x) (hBd.ne_own hOR2 (by decide))
          have hB10 := hide (hB9.set_ 1 (.int .i64 pb.y) (by simp))
          have hOs10 := hide (hOs9.set_other (i := 1) (.int .i64 pb.y) (hB9.ne_own hOs9 (by decide)))
          have hOR10 := hide (hOR9.set_other (i := 1) (.int .i64 pb.y) (hB9.ne_own hOR9 (by decide)))
          have hgz := hide (gr_set (gr_set (gr_trans hg hgwd) (p := ⟨gs, 0, none⟩) (.inr hgsl) (.int .i64 pb.x)) (p := ⟨gs, 1, none⟩) (.inr hgsl) (.int .i64 pb.y))
          clear hB9 hOs9 hOR9 hBd hOs2 hOR2 b0 b1 hLk hCt
          go_wp2_with fail
          refine ⟨⟨k + 1, by omega, by go_num, by rw [hst.out]; exact hB10.out, hgz.out, hOs10.out, hOR10.out⟩, by simp [intOf]; omega⟩
      · have hbf : bm = true := by rw [hbm2]; simp [hx]
        subst hbf
        have hyb : (ax == qx) = false := by simp [hx]
        have hyd : decide (ax = qx) = false := by simp [hx]
        clear hbm2
        refine wp_region_tree (fun wx => W8.grownBy wx none) [2, 2, 2, 2, 2, 0, 1, 1, 2, 2, 2] (.bl 0 (.bl 1 (.bl 2 (.bl 3 (.bl 4 (.bl 6 (.bl 7 (.bl 8 (.ef 5 (.bl 9 (.bl 10 .done))))))))))) (by kernel_rfl) (by kernel_rfl) (gr_drew (World.grownBy.refl _ _)) ?_
        obtain ⟨wd, hwd⟩ : ∃ x, x = (W8).drew := ⟨_, rfl⟩
        rw [← hwd]
        have hgwd : (W8).grownBy wd none := by rw [hwd]; exact gr_drew (World.grownBy.refl _ _)
        clear hwd
        refine tree_p rfl rfl rfl rfl _ rfl (by simp) (fun K hK => ?_)
        apply Exists.intro
        refine ⟨fun wq K' hK' => ?_, ?_⟩
        · go_wp2_with fail
          exact hK'
        go_simp
        refine hK _ ?_
        clear hK K
        refine tree_p rfl rfl rfl rfl _ rfl (by simp) (fun K hK => ?_)
        apply Exists.intro
        refine ⟨fun wq K' hK' => ?_, ?_⟩
        · go_wp2_with fail
          exact hK'
        go_simp
        refine hK _ ?_
        clear hK K
        refine tree_p rfl rfl rfl rfl _ rfl (by simp) (fun K hK => ?_)
        apply Exists.intro
        refine ⟨fun wq K' hK' => ?_, ?_⟩
        · go_wp2_with fail
          exact hK'
        go_simp
        refine hK _ ?_
        clear hK K
        refine tree_p rfl rfl rfl rfl _ rfl (by simp) (fun K hK => ?_)
        apply Exists.intro
        refine ⟨fun wq K' hK' => ?_, ?_⟩
        · go_wp2_with fail
          exact hK'
        go_simp
        refine hK _ ?_
        clear hK K
        refine tree_p rfl rfl rfl rfl _ rfl (by simp) (fun K hK => ?_)
        apply Exists.intro
        refine ⟨fun wq K' hK' => ?_, ?_⟩
        · go_wp2_with fail
          exact hK'
        go_simp
        refine hK _ ?_
        clear hK K
        refine tree_b rfl rfl rfl rfl _ rfl (by simp) (fun K hK => ?_)
        apply Exists.intro
        refine ⟨fun wq hq K' hK' => ?_, ?_⟩
        · obtain ⟨⟨d0, d1⟩, d2, d3⟩ := hLk.out wq hq
          go_wp2_with fail
          exact hK'
        go_simp
        refine hK _ ?_
        clear hK K
        refine tree_b rfl rfl rfl rfl _ rfl (by simp) (fun K hK => ?_)
        apply Exists.intro
        refine ⟨fun wq hq K' hK' => ?_, ?_⟩
        · obtain ⟨⟨d0, d1⟩, d2, d3⟩ := hLk.out wq hq
          go_wp2_with fail
          exact hK'
        go_simp
        refine hK _ ?_
        clear hK K
        refine tree_p rfl rfl rfl rfl _ rfl (by simp) (fun K hK => ?_)
        apply Exists.intro
        refine ⟨fun wq K' hK' => ?_, ?_⟩
        · go_wp2_with fail
          exact hK'
        go_simp
        refine hK _ ?_
        clear hK K
        refine tree_e rfl rfl (fun K hK => ?_)
        go_wp2_with fail
        refine (hCt.out _ (hR.pure hgwd)).mono ?_
        rintro e w5 ⟨rfl, rfl⟩
        rw [hm.out]
        go_wp2_with fail
        try go_simp
        refine hK _ _ (hgwd) ?_
        clear hK K
        refine tree_p rfl rfl rfl rfl _ rfl (by simp) (fun K hK => ?_)
        apply Exists.intro
        refine ⟨fun wq K' hK' => ?_, ?_⟩
        · go_wp2_with fail
          exact hK'
        go_simp
        refine hK _ ?_
        clear hK K
        refine tree_p rfl rfl rfl rfl _ rfl (by simp) (fun K hK => ?_)
        apply Exists.intro
        refine ⟨fun wq K' hK' => ?_, ?_⟩
        · go_wp2_with fail
          exact hK'
        go_simp
        refine hK _ ?_
        clear hK K
        refine tree_done ?_
        have hBd := hB.pure hgwd
        have hOs2 := hOs.pure hgwd
        have hOR2 := hOR.pure hgwd
        obtain ⟨s0, z0⟩ := hBd.c 0 rfl
        obtain ⟨s1, z1⟩ := hBd.c 1 rfl
        have e0 := hgwd.k b0
        have e1 := hgwd.k b1
        have hB9 := hBd.set_ 0 (.int .i64 pb.x) (by simp)
        have hOs9 := hOs2.set_other (i := 0) (.int .i64 pb.x) (hBd.ne_own hOs2 (by decide))
        have hOR9 := hOR2.set_other (i := 0) (.int .i64 pb.x) (hBd.ne_own hOR2 (by decide))
        have hB10 := hide (hB9.set_ 1 (.int .i64 pb.y) (by simp))
        have hOs10 := hide (hOs9.set_other (i := 1) (.int .i64 pb.y) (hB9.ne_own hOs9 (by decide)))
        have hOR10 := hide (hOR9.set_other (i := 1) (.int .i64 pb.y) (hB9.ne_own hOR9 (by decide)))
        have hgz := hide (gr_set (gr_set (gr_trans hg hgwd) (p := ⟨gs, 0, none⟩) (.inr hgsl) (.int .i64 pb.x)) (p := ⟨gs, 1, none⟩) (.inr hgsl) (.int .i64 pb.y))
        clear hB9 hOs9 hOR9 hBd hOs2 hOR2 b0 b1 hLk hCt
        go_wp2_with fail
        refine ⟨⟨k + 1, by omega, by go_num, by rw [hst.out]; exact hB10.out, hgz.out, hOs10.out, hOR10.out⟩, by simp [intOf]; omega⟩
    · go_wp2_with fail
      refine (ready_any _).mono ?_
      rintro e w9 ⟨rfl, h1⟩
      go_wp2_with fail
      go_ret
      exact ⟨rfl, gr_trans hge (gr_trans hg h1)⟩

end Go.Proofs.YtlefdcodfjifcaaGreatDoor
