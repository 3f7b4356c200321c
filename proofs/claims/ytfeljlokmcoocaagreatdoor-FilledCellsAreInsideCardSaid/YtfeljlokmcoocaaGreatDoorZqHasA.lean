/- Contracts of functions that this seat's laws reach, each: what one call returns and what it leaves in memory; no condition beyond each theorem's own hypotheses. -/
import Derived.Test.YtfeljlokmcoocaaGreatDoorZqCelM
import Derived.Test.YtfeljlokmcoocaaGreatDoorZqFillSpec
import Derived.Test.YtfeljlokmcoocaaGreatDoorZqPathC
set_option linter.unusedVariables false
set_option linter.unusedSimpArgs false
namespace Go.Bl
open Go
/-- what is wrong with a question -/
def hasE (c : Cel) (p : Pt) : Int := if cellsF c ≠ 0 then cellsF c else if farP p then 1 else 0

def hasV (c : Cel) (p : Pt) : Bool := decide (hasE c p = 0) && onC c (p.x / c.step) (p.y / c.step)

end Go.Bl
namespace Go.Proofs.YtfeljlokmcoocaaGreatDoor
open Go Go.RowKit Go.Bl

theorem floorG_any (n d : Int) (w : World) (hn : -4000000000000000000 ≤ n ∧ n ≤ 4000000000000000000) (hd : 1 ≤ d ∧ d ≤ 4000000000000000000) :
    Calls Tryz.prog 57 #[.int .i64 n, .int .i64 d] w fun e w' => e = .returned (.int .i64 (n / d)) ∧ w.grownBy w' none :=
  (floor_any n d w hn hd).mono fun e w' h => ⟨h.1, by rw [← h.2]; exact World.grownBy.refl _ _⟩

set_option maxHeartbeats 4000000 in
set_option maxRecDepth 100000 in
theorem has_any (c : Cel) (A : Option Addr) (n cc : Nat) (p : Pt) (w : World) (ha : CArg w c A n) :
    Calls Tryz.prog 17 #[.agg #[.int .i64 (c).step, .int .i64 (c).x, .int .i64 (c).y, .slice A n cc], .agg #[.int .i64 p.x, .int .i64 p.y]] w fun e w' => e = .returned (.tuple #[.bool (hasV c p), .int .i64 (hasE c p)]) ∧ w.grownBy w' none := by
  have hCk := hide (fun W (h : w.grownBy W none) => checkArg_any c A n cc W (ha.pure h))
  have hfar := hide (fun W => isFar_any p W)
  obtain ⟨F, hF⟩ : ∃ F, F = cellsF c := ⟨_, rfl⟩
  have hE : Hid (hasE c p = if F ≠ 0 then F else if farP p then 1 else 0) := by rw [Hid, hasE, hF]
  have hV : Hid (hasV c p = (decide (hasE c p = 0) && onC c (p.x / c.step) (p.y / c.step))) := rfl
  rw [← hF] at hCk
  rcases hz : (F == 0) with _ | _
  · have hne : F ≠ 0 := by simpa using hz
    have hE' : Hid (hasE c p = F) := by rw [Hid, hE.out, if_pos hne]
    have hV' : Hid (hasV c p = false) := by rw [Hid, hV.out, hE'.out, decide_eq_false hne]; rfl
    have hz' : (F != 0) = true := by simp [hne]
    clear hE hF hV hne
    go_enter Tryz.func17, Tryz.ntmps17
    go_upto_region 1 with fail
    obtain ⟨w2, hw2⟩ : ∃ x, x = ((w).alloc (.cells [.int .i64 (c).step, .int .i64 (c).x, .int .i64 (c).y, .slice A n cc].toArray 34)).alloc (.cells [.int .i64 p.x, .int .i64 p.y].toArray 30) := ⟨_, rfl⟩
    have hba2 : Box w2 (w).heap.size 34 [.int .i64 (c).step, .int .i64 (c).x, .int .i64 (c).y, .slice A n cc] := by
      rw [hw2]; exact (Box.new (w) [.int .i64 (c).step, .int .i64 (c).x, .int .i64 (c).y, .slice A n cc] 34).pure (gr_alloc (World.grownBy.refl _ _) _)
    have hbb2 : Box w2 ((w).heap.size + 1) 30 [.int .i64 p.x, .int .i64 p.y] := by
      have h := Box.new ((w).alloc (.cells [.int .i64 (c).step, .int .i64 (c).x, .int .i64 (c).y, .slice A n cc].toArray 34)) [.int .i64 p.x, .int .i64 p.y] 30
      rw [show ((w).alloc (.cells [.int .i64 (c).step, .int .i64 (c).x, .int .i64 (c).y, .slice A n cc].toArray 34)).heap.size = (w).heap.size + 1 by simp] at h
      rw [hw2]; exact h
    have hg2 : (w).grownBy w2 none := by rw [hw2]; exact (by repeat (first | exact World.grownBy.refl _ _ | assumption | refine gr_alloc ?_ _ | (apply gr_tail; assumption) | refine gr_drewN ?_ _ | refine gr_drew ?_))
    rw [← hw2]
    clear hw2
    obtain ⟨xb2, hxb2⟩ : ∃ x, x = (w).heap.size + 1 := ⟨_, rfl⟩
    rw [← hxb2] at hbb2 ⊢
    obtain ⟨xa2, hxa2⟩ : ∃ x, x = (w).heap.size := ⟨_, rfl⟩
    rw [← hxa2] at hba2 ⊢
    have hxn2 : xa2 ≠ xb2 := by omega
    replace hxa2 : (w).heap.size ≤ xa2 := by omega
    replace hxb2 : (w).heap.size ≤ xb2 := by omega
    obtain ⟨⟨a0, -⟩, ⟨a1, -⟩, ⟨a2, -⟩, ⟨a3, -⟩⟩ := box4_c hba2
    go_wp2_with fail
    refine (hCk.out w2 hg2).mono ?_
    rintro e w3 ⟨rfl, hg3⟩
    go_wp2_with fail
    rw [hE'.out, hV'.out]
    go_ret2
    exact ⟨rfl, hg2.t hg3⟩
  have hF0 : F = 0 := by simpa using hz
  subst hF0
  clear hz
  have hok := cells_ok.1 hF.symm
  clear hF
  rcases hfp : farP p with _ | _
  rotate_left
  · have hE' : Hid (hasE c p = 1) := by rw [Hid, hE.out, if_neg (by simp), hfp]; rfl
    have hV' : Hid (hasV c p = false) := by rw [Hid, hV.out, hE'.out]; rfl
    rw [hfp] at hfar
    clear hE hV hok
    go_enter Tryz.func17, Tryz.ntmps17
    go_upto_region 1 with fail
    obtain ⟨w2, hw2⟩ : ∃ x, x = ((w).alloc (.cells [.int .i64 (c).step, .int .i64 (c).x, .int .i64 (c).y, .slice A n cc].toArray 34)).alloc (.cells [.int .i64 p.x, .int .i64 p.y].toArray 30) := ⟨_, rfl⟩
    have hba2 : Box w2 (w).heap.size 34 [.int .i64 (c).step, .int .i64 (c).x, .int .i64 (c).y, .slice A n cc] := by
      rw [hw2]; exact (Box.new (w) [.int .i64 (c).step, .int .i64 (c).x, .int .i64 (c).y, .slice A n cc] 34).pure (gr_alloc (World.grownBy.refl _ _) _)
    have hbb2 : Box w2 ((w).heap.size + 1) 30 [.int .i64 p.x, .int .i64 p.y] := by
      have h := Box.new ((w).alloc (.cells [.int .i64 (c).step, .int .i64 (c).x, .int .i64 (c).y, .slice A n cc].toArray 34)) [.int .i64 p.x, .int .i64 p.y] 30
      rw [show ((w).alloc (.cells [.int .i64 (c).step, .int .i64 (c).x, .int .i64 (c).y, .slice A n cc].toArray 34)).heap.size = (w).heap.size + 1 by simp] at h
      rw [hw2]; exact h
    have hg2 : (w).grownBy w2 none := by rw [hw2]; exact (by repeat (first | exact World.grownBy.refl _ _ | assumption | refine gr_alloc ?_ _ | (apply gr_tail; assumption) | refine gr_drewN ?_ _ | refine gr_drew ?_))
    rw [← hw2]
    clear hw2
    obtain ⟨xb2, hxb2⟩ : ∃ x, x = (w).heap.size + 1 := ⟨_, rfl⟩
    rw [← hxb2] at hbb2 ⊢
    obtain ⟨xa2, hxa2⟩ : ∃ x, x = (w).heap.size := ⟨_, rfl⟩
    rw [← hxa2] at hba2 ⊢
    have hxn2 : xa2 ≠ xb2 := by omega
    replace hxa2 : (w).heap.size ≤ xa2 := by omega
    replace hxb2 : (w).heap.size ≤ xb2 := by omega
    obtain ⟨⟨a0, -⟩, ⟨a1, -⟩, ⟨a2, -⟩, ⟨a3, -⟩⟩ := box4_c hba2
    go_wp2_with fail
    refine (hCk.out w2 hg2).mono ?_
    rintro e w3 ⟨rfl, hg3⟩
    replace hbb2 := hbb2.pure hg3
    obtain ⟨b0, -⟩ := hbb2.c 0 rfl
    obtain ⟨b1, -⟩ := hbb2.c 1 rfl
    replace hg2 := hg2.t hg3
    clear a0 a1 a2 a3 hg3 hCk
    go_wp2_with fail
    refine (hfar.out w3).mono ?_
    rintro e w4 ⟨rfl, hg4⟩
    go_wp2_with fail
    rw [hE'.out, hV'.out]
    go_ret2
    exact ⟨rfl, hg2.t hg4⟩
  have hpb : (-100000 ≤ p.x ∧ p.x ≤ 100000) ∧ -100000 ≤ p.y ∧ p.y ≤ 100000 := by
    simp only [farP, outB, Bool.or_eq_false_iff, decide_eq_false_iff_not] at hfp
    omega
  have hE' : Hid (hasE c p = 0) := by rw [Hid, hE.out, if_neg (by simp), hfp]; rfl
  have hV' : Hid (hasV c p = onC c (p.x / c.step) (p.y / c.step)) := by rw [Hid, hV.out, hE'.out]; rfl
  rw [hfp] at hfar
  have hsp := step_pos hok.step
  have hGo := hide (fun W (h : w.grownBy W none) => gridArg_any c A n cc W (ha.pure h) hok)
  have hf1 := hide (fun W => floorG_any p.x c.step W (by omega) (by omega))
  have hf2 := hide (fun W => floorG_any p.y c.step W (by omega) (by omega))
  have hd1 := div_bd hsp.1 hpb.1.1 hpb.1.2 (by omega)
  have hd2 := div_bd hsp.1 hpb.2.1 hpb.2.2 (by omega)
  have hat := hide (fun W g b x y (h : GridAt W g b (gridOf c)) h1 h2 => at_any g b (gridOf c) x y W h h1 h2)
  have hgat := hide (fun x y => gridOf_at (x := x) (y := y) hok)
  generalize p.x / c.step = qx at *
  generalize p.y / c.step = qy at *
  clear hE hV hok hsp ha hpb
  go_enter Tryz.func17, Tryz.ntmps17
  go_upto_region 1 with fail
  obtain ⟨w2, hw2⟩ : ∃ x, x = ((w).alloc (.cells [.int .i64 (c).step, .int .i64 (c).x, .int .i64 (c).y, .slice A n cc].toArray 34)).alloc (.cells [.int .i64 p.x, .int .i64 p.y].toArray 30) := ⟨_, rfl⟩
  have hba2 : Box w2 (w).heap.size 34 [.int .i64 (c).step, .int .i64 (c).x, .int .i64 (c).y, .slice A n cc] := by
    rw [hw2]; exact (Box.new (w) [.int .i64 (c).step, .int .i64 (c).x, .int .i64 (c).y, .slice A n cc] 34).pure (gr_alloc (World.grownBy.refl _ _) _)
  have hbb2 : Box w2 ((w).heap.size + 1) 30 [.int .i64 p.x, .int .i64 p.y] := by
    have h := Box.new ((w).alloc (.cells [.int .i64 (c).step, .int .i64 (c).x, .int .i64 (c).y, .slice A n cc].toArray 34)) [.int .i64 p.x, .int .i64 p.y] 30
    rw [show ((w).alloc (.cells [.int .i64 (c).step, .int .i64 (c).x, .int .i64 (c).y, .slice A n cc].toArray 34)).heap.size = (w).heap.size + 1 by simp] at h
    rw [hw2]; exact h
  have hg2 : (w).grownBy w2 none := by rw [hw2]; exact (by repeat (first | exact World.grownBy.refl _ _ | assumption | refine gr_alloc ?_ _ | (apply gr_tail; assumption) | refine gr_drewN ?_ _ | refine gr_drew ?_))
  rw [← hw2]
  clear hw2
  obtain ⟨xb2, hxb2⟩ : ∃ x, x = (w).heap.size + 1 := ⟨_, rfl⟩
  rw [← hxb2] at hbb2 ⊢
  obtain ⟨xa2, hxa2⟩ : ∃ x, x = (w).heap.size := ⟨_, rfl⟩
  rw [← hxa2] at hba2 ⊢
  have hxn2 : xa2 ≠ xb2 := by omega
  replace hxa2 : (w).heap.size ≤ xa2 := by omega
  replace hxb2 : (w).heap.size ≤ xb2 := by omega
  obtain ⟨⟨a0, -⟩, ⟨a1, -⟩, ⟨a2, -⟩, ⟨a3, -⟩⟩ := box4_c hba2
  go_wp2_with fail
  refine (hCk.out w2 hg2).mono ?_
  rintro e w3 ⟨rfl, hg3⟩
  replace hba2 := hba2.pure hg3
  replace hbb2 := hbb2.pure hg3
  obtain ⟨b0, -⟩ := hbb2.c 0 rfl
  obtain ⟨b1, -⟩ := hbb2.c 1 rfl
  replace hg2 := hg2.t hg3
  clear a0 a1 a2 a3 hg3 hCk
  go_wp2_with fail
  refine (hfar.out w3).mono ?_
  rintro e w4 ⟨rfl, hg4⟩
  replace hba2 := hba2.pure hg4
  replace hbb2 := hbb2.pure hg4
  replace hg2 := hg2.t hg4
  clear b0 b1 hg4 hfar
  obtain ⟨b0, -⟩ := hbb2.c 0 rfl
  obtain ⟨b1, -⟩ := hbb2.c 1 rfl
  obtain ⟨⟨a0, -⟩, ⟨a1, -⟩, ⟨a2, -⟩, ⟨a3, -⟩⟩ := box4_c hba2
  go_upto_region 6 with fail
  clear hba2 hbb2
  refine wp_region_tree (fun wx => w4.grownBy wx none) [1, 0, 2, 1, 2, 1, 0, 2, 1, 2, 1, 0, 0, 2, 2] (.bl 0 (.bl 2 (.bl 3 (.bl 4 (.bl 5 (.bl 7 (.bl 8 (.bl 9 (.bl 10 (.ef 1 (.ef 6 (.ef 11 (.ef 12 (.bl 13 (.bl 14 .done))))))))))))))) (by kernel_rfl) (by kernel_rfl) (gr_drew (World.grownBy.refl _ _)) ?_
  obtain ⟨W1, hW1⟩ : ∃ x, x = (w4).drew := ⟨_, rfl⟩
  rw [← hW1]
  have hgW1 : (w4).grownBy W1 none := by rw [hW1]; exact gr_drew (World.grownBy.refl _ _)
  clear hW1
  refine tree_b rfl rfl rfl rfl _ rfl (by simp) (fun K hK => ?_)
  apply Exists.intro
  refine ⟨fun wq hq K' hK' => ?_, ?_⟩
  · have q0 := hq.k a0
    have q1 := hq.k a1
    have q2 := hq.k a2
    have q3 := hq.k a3
    have r0 := hq.k b0
    have r1 := hq.k b1
    go_wp2_with fail
    exact hK'
  go_simp
  refine hK _ ?_
  clear hK K
  refine tree_p rfl rfl rfl rfl _ rfl (by simp) (fun K hK => ?_)
  apply Exists.intro
  refine ⟨fun wq K' hK' => ?_, ?_⟩
  · go_wp2_with fail
    exact hK'
  go_simp
  refine hK _ ?_
  clear hK K
  refine tree_b rfl rfl rfl rfl _ rfl (by simp) (fun K hK => ?_)
  apply Exists.intro
  refine ⟨fun wq hq K' hK' => ?_, ?_⟩
  · have q0 := hq.k a0
    have q1 := hq.k a1
    have q2 := hq.k a2
    have q3 := hq.k a3
    have r0 := hq.k b0
    have r1 := hq.k b1
    go_wp2_with fail
    exact hK'
  go_simp
  refine hK _ ?_
  clear hK K
  refine tree_p rfl rfl rfl rfl _ rfl (by simp) (fun K hK => ?_)
  apply Exists.intro
  refine ⟨fun wq K' hK' => ?_, ?_⟩
  · go_wp2_with fail
    exact hK'
  go_simp
  refine hK _ ?_
  clear hK K
  refine tree_b rfl rfl rfl rfl _ rfl (by simp) (fun K hK => ?_)
  apply Exists.intro
  refine ⟨fun wq hq K' hK' => ?_, ?_⟩
  · have q0 := hq.k a0
    have q1 := hq.k a1
    have q2 := hq.k a2
    have q3 := hq.k a3
    have r0 := hq.k b0
    have r1 := hq.k b1
    go_wp2_with fail
    exact hK'
  go_simp
  refine hK _ ?_
  clear hK K
  refine tree_p rfl rfl rfl rfl _ rfl (by simp) (fun K hK => ?_)
  apply Exists.intro
  refine ⟨fun wq K' hK' => ?_, ?_⟩
  · go_wp2_with fail
    exact hK'
  go_simp
  refine hK _ ?_
  clear hK K
  refine tree_b rfl rfl rfl rfl _ rfl (by simp) (fun K hK => ?_)
  apply Exists.intro
  refine ⟨fun wq hq K' hK' => ?_, ?_⟩
  · have q0 := hq.k a0
    have q1 := hq.k a1
    have q2 := hq.k a2
    have q3 := hq.k a3
    have r0 := hq.k b0
    have r1 := hq.k b1
    go_wp2_with fail
    exact hK'
  go_simp
  refine hK _ ?_
  clear hK K
  refine tree_p rfl rfl rfl rfl _ rfl (by simp) (fun K hK => ?_)
  apply Exists.intro
  refine ⟨fun wq K' hK' => ?_, ?_⟩
  · go_wp2_with fail
    exact hK'
  go_simp
  refine hK _ ?_
  clear hK K
  refine tree_b rfl rfl rfl rfl _ rfl (by simp) (fun K hK => ?_)
  apply Exists.intro
  refine ⟨fun wq hq K' hK' => ?_, ?_⟩
  · have q0 := hq.k a0
    have q1 := hq.k a1
    have q2 := hq.k a2
    have q3 := hq.k a3
    have r0 := hq.k b0
    have r1 := hq.k b1
    go_wp2_with fail
    exact hK'
  go_simp
  refine hK _ ?_
  clear hK K
  refine tree_e rfl rfl (fun K hK => ?_)
  go_wp2_with fail
  refine (hGo.out W1 (hg2.t (gr_trans hgW1 (World.grownBy.refl _ _)))).mono ?_
  rintro e u1 ⟨g, b, rfl, hG, hg1, hgg, hgb⟩
  go_wp2_with fail
  try go_simp
  refine hK _ _ (gr_trans hgW1 hg1) ?_
  clear hK K
  refine tree_e rfl rfl (fun K hK => ?_)
  go_wp2_with fail
  refine (hf1.out u1).mono ?_
  rintro e u6 ⟨rfl, hg6⟩
  go_wp2_with fail
  try go_simp
  refine hK _ _ (gr_trans (gr_trans hgW1 hg1) hg6) ?_
  clear hK K
  refine tree_e0 (by kernel_rfl) rfl rfl (fun K hK => ?_)
  go_wp2_with fail
  refine (hf2.out u6).mono ?_
  rintro e u11 ⟨rfl, hg11⟩
  go_wp2_with fail
  try go_simp
  refine hK _ _ trivial ?_
  clear hK K
  refine tree_e0 (by kernel_rfl) rfl rfl (fun K hK => ?_)
  go_wp2_with fail
  refine (hat.out u11 g b qx qy (hG.pure (gr_trans hg6 hg11)) (by omega) (by omega)).mono ?_
  rintro e u12 ⟨rfl, hg12⟩
  rw [hgat.out]
  go_wp2_with fail
  try go_simp
  refine hK _ _ trivial ?_
  clear hK K
  refine tree_p rfl rfl rfl rfl _ rfl (by simp) (fun K hK => ?_)
  apply Exists.intro
  refine ⟨fun wq K' hK' => ?_, ?_⟩
  · go_wp2_with fail
    exact hK'
  go_simp
  refine hK _ ?_
  clear hK K
  refine tree_p rfl rfl rfl rfl _ rfl (by simp) (fun K hK => ?_)
  apply Exists.intro
  refine ⟨fun wq K' hK' => ?_, ?_⟩
  · go_wp2_with fail
    exact hK'
  go_simp
  refine hK _ ?_
  clear hK K
  refine tree_done ?_
  go_wp2_with fail
  rw [hE'.out, hV'.out]
  go_ret2
  exact ⟨rfl, hg2.t (gr_trans hgW1 (gr_trans (gr_trans (gr_trans hg1 hg6) hg11) hg12))⟩

end Go.Proofs.YtfeljlokmcoocaaGreatDoor
