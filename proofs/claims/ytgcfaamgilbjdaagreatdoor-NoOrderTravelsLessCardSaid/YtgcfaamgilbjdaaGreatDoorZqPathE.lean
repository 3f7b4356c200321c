/- Contracts of functions that this seat's laws reach, each: what one call returns and what it leaves in memory; no condition beyond each theorem's own hypotheses. -/
import Derived.Test.YtgcfaamgilbjdaaGreatDoorZqOrdG
import Derived.StillTailTactics
import Derived.Test.YtgcfaamgilbjdaaGreatDoorZqHead
import Derived.Test.YtgcfaamgilbjdaaGreatDoorZqTree
set_option linter.unusedVariables false
set_option linter.unusedSimpArgs false
namespace Go.Proofs.YtgcfaamgilbjdaaGreatDoor
open Go.RowKit Go.Bl

end Go.Proofs.YtgcfaamgilbjdaaGreatDoor

namespace Go.Proofs.YtgcfaamgilbjdaaGreatDoor
open Go.RowKit Go.Bl

def pointsF (l : List Pt) : Int := if l.any farP then 1 else 0

theorem pointsF_no {l : List Pt} (h : l.any farP = false) : pointsF l = 0 := by simp [pointsF, h]

theorem pointsF_yes {l : List Pt} (h : l.any farP = true) : pointsF l = 1 := by simp [pointsF, h]

theorem any_snoc {l : List Pt} {k : Nat} (h : k < l.length) : (l.take (k + 1)).any farP = ((l.take k).any farP || farP l[k]) := by rw [take_snoc h, List.any_append]; simp

theorem any_at {l : List Pt} {k : Nat} (h : k < l.length) (hf : farP l[k] = true) : l.any farP = true := List.any_eq_true.2 ⟨_, List.getElem_mem _, hf⟩

set_option maxHeartbeats 400000 in
theorem pointFault_any (A : Option Addr) (c : Nat) (l : List Pt) (w : World) (hl : Sl w 0 A l) :
    Calls Tryz.prog 50 #[.slice A l.length c] w fun e w' => e = .returned (.int .i64 (pointsF l)) ∧ w.grownBy w' none := by
  have hm := hl.1
  unfold maxLen at hm
  go_enter Tryz.func50, Tryz.ntmps50
  go_wp2
  go_loopw [7] (fun i wr => ∃ k : Nat, k ≤ l.length ∧ i = .int .i64 k ∧ w.grownBy wr none ∧ Hid ((l.take k).any farP = false)) (fun i _ => l.length - (intOf i).toNat)
  case atStart => exact ⟨0, Nat.zero_le _, rfl, World.grownBy.refl _ _, by simp [Hid]⟩
  case round =>
    obtain ⟨k, hk, rfl, hg, hall⟩ := hrel
    by_cases hlt : k < l.length
    · obtain ⟨g, o, cx, rfl, hb0, hb1, rfl, hc⟩ := (hl.pure hg).at_ (by decide) hlt
      have c0 : wr.cell? ⟨g, o + k * 2, none⟩ = some (.int .i64 l[k].x) := hc 0 _ rfl
      have c1 : wr.cell? ⟨g, o + k * 2 + 1, none⟩ = some (.int .i64 l[k].y) := hc 1 _ rfl
      clear hc
      have HF : Hid (farP l[k] = (!inB l[k].x (-100000) 100000 || !inB l[k].y (-100000) 100000)) := by simp only [Hid, farP, inB_not]
      have HS := hide (any_snoc hlt)
      have HA : Hid (farP l[k] = true → l.any farP = true) := any_at hlt
      go_wp2_with (go_at_call 63; refine (in_any _ _ _ _).mono ?_; rintro e w' ⟨rfl, rfl⟩)
      all_goals first
        | (go_ret; exact ⟨ret_int (pointsF_yes (HA.out (by rw [HF.out]; simp [*]))).symm, (by repeat (first | exact World.grownBy.refl _ _ | assumption | refine gr_alloc ?_ _ | refine gr_drewN ?_ _ | refine gr_drew ?_))⟩)
        | (go_roundw; (case rel => exact ⟨k + 1, by omega, by go_num, (by repeat (first | exact World.grownBy.refl _ _ | assumption | refine gr_alloc ?_ _ | refine gr_drewN ?_ _ | refine gr_drew ?_)), by simp only [Hid]; rw [HS.out, hall.out, HF.out]; simp [*]⟩); (case measure => simp [intOf]; omega))
    · have HB : Hid (pointsF l = 0) := pointsF_no (by have := hall.out; rwa [List.take_of_length_le (by omega)] at this)
      go_wp2
      go_ret
      exact ⟨ret_int HB.out.symm, hg⟩

set_option maxHeartbeats 400000 in
theorem isFar_any (p : Pt) (w : World) :
    Calls Tryz.prog 37 #[.agg #[.int .i64 p.x, .int .i64 p.y]] w fun e w' => e = .returned (.bool (farP p)) ∧ w.grownBy w' none := by
  go_enter Tryz.func37, Tryz.ntmps37
  go_wp2_with (go_at_call 51; refine (outside_any _ _ _ _).mono ?_; rintro e w' ⟨rfl, rfl⟩)
  all_goals (go_ret; exact ⟨ret_bool (by simp [farP, *]), (by repeat (first | exact World.grownBy.refl _ _ | assumption | refine gr_alloc ?_ _ | refine gr_drewN ?_ _ | refine gr_drew ?_))⟩)

set_option maxHeartbeats 400000 in
theorem indexFar_any (A : Option Addr) (c : Nat) (l : List Pt) (w : World) (hl : Sl w 0 A l) :
    Calls Tryz.prog 64 #[.slice A l.length c, .func (.func 37) #[] #[]] w fun e w' => ∃ r : Int, e = .returned (.int .i64 r) ∧ decide (0 ≤ r) = l.any farP ∧ w.grownBy w' none := by
  have hm := hl.1
  unfold maxLen at hm
  go_enter Tryz.func64, Tryz.ntmps64
  go_wp2
  go_loopw [8] (fun i wr => ∃ k : Nat, k ≤ l.length ∧ i = .int .i64 k ∧ w.grownBy wr none ∧ Hid ((l.take k).any farP = false)) (fun i _ => l.length - (intOf i).toNat)
  case atStart => exact ⟨0, Nat.zero_le _, rfl, World.grownBy.refl _ _, by simp [Hid]⟩
  case round =>
    obtain ⟨k, hk, rfl, hg, hall⟩ := hrel
    by_cases hlt : k < l.length
    · obtain ⟨g, o, cx, rfl, hb0, hb1, rfl, hc⟩ := (hl.pure hg).at_ (by decide) hlt
      have c0 : wr.cell? ⟨g, o + k * 2, none⟩ = some (.int .i64 l[k].x) := hc 0 _ rfl
      have c1 : wr.cell? ⟨g, o + k * 2 + 1, none⟩ = some (.int .i64 l[k].y) := hc 1 _ rfl
      clear hc
      have HS := hide (any_snoc hlt)
      have HA : Hid (farP l[k] = true → l.any farP = true) := any_at hlt
      go_wp2_with fail
      refine (isFar_any l[k] _).mono ?_
      rintro e w' ⟨rfl, hg'⟩
      rcases hf : farP l[k] with _ | _
      · go_wp2_with fail
        go_roundw
        case rel => exact ⟨k + 1, by omega, by go_num, gr_trans hg hg', by simp only [Hid]; rw [HS.out, hall.out, hf]; rfl⟩
        case measure => simp [intOf]; omega
      · have HB := hide (HA.out hf)
        go_wp2_with fail
        go_ret
        exact ⟨k, rfl, by rw [HB.out]; simp, gr_trans hg hg'⟩
    · have HB : Hid (l.any farP = false) := by have := hall.out; rwa [List.take_of_length_le (by omega)] at this
      go_wp2
      go_ret
      exact ⟨-1, rfl, by rw [HB.out]; rfl, hg⟩

set_option maxHeartbeats 400000 in
theorem containsFar_any (A : Option Addr) (c : Nat) (l : List Pt) (w : World) (hl : Sl w 0 A l) :
    Calls Tryz.prog 52 #[.slice A l.length c, .func (.func 37) #[] #[]] w fun e w' => e = .returned (.bool (l.any farP)) ∧ w.grownBy w' none := by
  go_enter Tryz.func52, Tryz.ntmps52
  go_wp2_with fail
  refine (indexFar_any _ _ _ _ hl).mono ?_
  rintro e w1 ⟨r, rfl, hr, hg⟩
  replace hr := hide hr
  go_wp2_with fail
  go_ret
  exact ⟨ret_bool hr.out, hg⟩

set_option maxHeartbeats 400000 in
theorem pathFaultRef_any (A : Option Addr) (c : Nat) (p : PathV) (w : World) (hl : Sl w 0 A p.pts) :
    Calls Tryz.prog 36 #[.agg #[.slice A p.pts.length c, .bool p.cl]] w fun e w' => e = .returned (.int .i64 (pathF p)) ∧ w.grownBy w' none := by
  have hm := hl.1
  unfold maxLen at hm
  obtain ⟨pts, cl⟩ := p
  simp only at hl hm ⊢
  have HP : Hid (pathF ⟨pts, cl⟩ = if pts.length = 0 then 8 else if 500 < pts.length then 2 else if cl = true ∧ pts.length < 3 then 3 else pointsF pts) := rfl
  go_enter Tryz.func36, Tryz.ntmps36
  cases cl <;> go_wp2_with (go_at_call 50; refine (pointFault_any _ _ _ _ (hl.pure (by repeat (first | exact World.grownBy.refl _ _ | assumption | refine gr_alloc ?_ _ | refine gr_drewN ?_ _ | refine gr_drew ?_)))).mono ?_; rintro e w' ⟨rfl, hg'⟩)
  all_goals (go_ret; exact ⟨ret_int (by clear hl; rw [HP.out]; (repeat' split) <;> simp_all <;> omega), (by repeat (first | exact World.grownBy.refl _ _ | assumption | refine gr_alloc ?_ _ | (apply gr_tail; assumption) | refine gr_drewN ?_ _ | refine gr_drew ?_))⟩)

set_option maxHeartbeats 400000 in
theorem pathFault_any (A : Option Addr) (c : Nat) (p : PathV) (w : World) (hl : Sl w 0 A p.pts) :
    Calls Tryz.prog 40 #[.agg #[.slice A p.pts.length c, .bool p.cl]] w fun e w' => e = .returned (.int .i64 (pathF p)) ∧ w.grownBy w' none := by
  have hm := hl.1
  unfold maxLen at hm
  obtain ⟨pts, cl⟩ := p
  simp only at hl hm ⊢
  have HP : Hid (pathF ⟨pts, cl⟩ = if pts.length = 0 then 8 else if 500 < pts.length then 2 else if cl = true ∧ pts.length < 3 then 3 else pointsF pts) := rfl
  go_enter Tryz.func40, Tryz.ntmps40
  cases cl <;> go_wp2_with (go_at_call 52; refine (containsFar_any _ _ _ _ (hl.pure (by repeat (first | exact World.grownBy.refl _ _ | assumption | refine gr_alloc ?_ _ | refine gr_drewN ?_ _ | refine gr_drew ?_)))).mono ?_; rintro e w' ⟨rfl, hg'⟩)
  all_goals (go_ret; exact ⟨ret_int (by clear hl; unfold pointsF at HP; rw [HP.out]; (repeat' split) <;> simp_all <;> omega), (by repeat (first | exact World.grownBy.refl _ _ | assumption | refine gr_alloc ?_ _ | (apply gr_tail; assumption) | refine gr_drewN ?_ _ | refine gr_drew ?_))⟩)

end Go.Proofs.YtgcfaamgilbjdaaGreatDoor

namespace Go.Proofs.YtgcfaamgilbjdaaGreatDoor
open Go.RowKit Go.Bl

end Go.Proofs.YtgcfaamgilbjdaaGreatDoor

namespace Go.Proofs.YtgcfaamgilbjdaaGreatDoor
open Go.RowKit Go.Bl

set_option maxHeartbeats 400000 in
theorem volumeGo_any (A : Option Addr) (c : Nat) (l : List Bead) (w : World) (hl : Sl w 0 A l) :
    Calls Tryz.prog 29 #[.slice A l.length c] w fun e w' => e = .returned (.tuple #[.int .i64 (volumeOf l), .int .i64 (fedFault l)]) ∧ w.grownBy w' none := by
  by_cases h : checkBeads l = 0
  · have hb : (checkBeads l != 0) = false := by simp [h]
    by_cases h3 : 1000000000000000000 < volW l
    · have HS : Hid (12 = fedFault l) := by simp [Hid, fedFault, h, h3]
      have HV : Hid (0 = volumeOf l) := by simp only [Hid, volumeOf]; rw [if_pos (by rw [← HS.out]; simp)]
      clear h
      go_enter Tryz.func29, Tryz.ntmps29
      go_wp2_with fail
      refine (checkBeads_any _ _ _ _ hl).mono ?_
      rintro e w1 ⟨rfl, hg⟩
      go_wp2_with fail
      refine (volume_any _ _ _ _ (hl.pure hg)).mono ?_
      rintro e w2 ⟨rfl, hg2⟩
      go_wp2_with fail
      go_ret2
      exact ⟨by rw [← HS.out, ← HV.out]; rfl, gr_trans hg hg2⟩
    · have HS : Hid (0 = fedFault l) := by simp [Hid, fedFault, h, h3]
      have HV : Hid (volW l = volumeOf l) := by simp only [Hid, volumeOf]; rw [if_neg (by rw [← HS.out]; simp)]
      clear h
      go_enter Tryz.func29, Tryz.ntmps29
      go_wp2_with fail
      refine (checkBeads_any _ _ _ _ hl).mono ?_
      rintro e w1 ⟨rfl, hg⟩
      go_wp2_with fail
      refine (volume_any _ _ _ _ (hl.pure hg)).mono ?_
      rintro e w2 ⟨rfl, hg2⟩
      go_wp2_with fail
      go_ret2
      exact ⟨by rw [← HS.out, ← HV.out]; rfl, gr_trans hg hg2⟩
  · have hb : (checkBeads l != 0) = true := by simp [h]
    have HS : Hid (checkBeads l = fedFault l) := by simp [Hid, fedFault, h]
    have HV : Hid (0 = volumeOf l) := by simp only [Hid, volumeOf]; rw [if_pos (by rw [← HS.out]; exact h)]
    clear h
    go_enter Tryz.func29, Tryz.ntmps29
    go_wp2_with fail
    refine (checkBeads_any _ _ _ _ hl).mono ?_
    rintro e w1 ⟨rfl, hg⟩
    go_wp2_with fail
    go_ret2
    exact ⟨by rw [← HS.out, ← HV.out]; rfl, hg⟩

def aBead : List Bead := [⟨10, 3, 2⟩]

end Go.Proofs.YtgcfaamgilbjdaaGreatDoor

namespace Go.Proofs.YtgcfaamgilbjdaaGreatDoor
open Go.RowKit Go.Bl

set_option maxHeartbeats 800000 in
theorem pathsFaultRef_any (A : Option Addr) (c : Nat) (l : List PathV) (w : World) (hl : Sl w 0 A l) :
    Calls Tryz.prog 16 #[.slice A l.length c] w fun e w' => e = .returned (.int .i64 (pathsF l)) ∧ w.grownBy w' none := by
  have hm := hl.1
  unfold maxLen at hm
  by_cases h0 : 200 < l.length
  · have HP : Hid (pathsF l = 2) := by simp [Hid, pathsF, h0]
    go_enter Tryz.func16, Tryz.ntmps16
    go_wp2
    go_ret
    exact ⟨ret_int HP.out.symm, (by repeat (first | exact World.grownBy.refl _ _ | assumption | refine gr_alloc ?_ _ | (apply gr_tail; assumption) | refine gr_drewN ?_ _ | refine gr_drew ?_))⟩
  · have HP : Hid (orL ((l.map pathF).drop 0) = pathsF l) := by simp only [Hid, pathsF]; rw [if_neg h0]; rfl
    go_enter Tryz.func16, Tryz.ntmps16
    go_wp2
    go_loopw [11] (fun i wr => ∃ k : Nat, k ≤ l.length ∧ i = .int .i64 k ∧ w.grownBy wr none ∧ Hid (orL ((l.map pathF).drop k) = pathsF l)) (fun i _ => l.length - (intOf i).toNat)
    case atStart => exact ⟨0, Nat.zero_le _, rfl, World.grownBy.refl _ _, HP⟩
    case round =>
      obtain ⟨k, hk, rfl, hg, hd⟩ := hrel
      by_cases hlt : k < l.length
      · obtain ⟨g, o, cx, rfl, hb0, hb1, ⟨A', c', rfl, hcp, hpts⟩, hc⟩ := (hl.pure hg).at_ (by decide) hlt
        have c0 : wr.cell? ⟨g, o + k * 2, none⟩ = some (.slice A' l[k].pts.length c') := hc 0 _ rfl
        have c1 : wr.cell? ⟨g, o + k * 2 + 1, none⟩ = some (.bool l[k].cl) := hc 1 _ rfl
        clear hc
        have HS := hide (orL_map_drop pathF hlt)
        go_wp2_with fail
        refine (pathFaultRef_any _ _ l[k] _ (hpts.pure (gr_alloc (World.grownBy.refl _ _) _))).mono ?_
        rintro e w' ⟨rfl, hg'⟩
        by_cases hz : pathF l[k] = 0
        · have hb : (pathF l[k] != 0) = false := by simp [hz]
          have HT : Hid (orL ((l.map pathF).drop (k + 1)) = pathsF l) := by rw [Hid, ← hd.out, HS.out, if_neg (by simp [hz])]
          clear hz
          go_wp2_with fail
          (go_roundw; (case rel => exact ⟨k + 1, by omega, by go_num, (by repeat (first | exact World.grownBy.refl _ _ | assumption | refine gr_alloc ?_ _ | (apply gr_tail; assumption) | refine gr_drewN ?_ _ | refine gr_drew ?_)), HT⟩); (case measure => simp [intOf]; omega))
        · have hb : (pathF l[k] != 0) = true := by simp [hz]
          have HT : Hid (pathF l[k] = pathsF l) := by rw [Hid, ← hd.out, HS.out, if_pos hz]
          clear hz
          go_wp2_with fail
          go_ret
          exact ⟨ret_int HT.out, (by repeat (first | exact World.grownBy.refl _ _ | assumption | refine gr_alloc ?_ _ | (apply gr_tail; assumption) | refine gr_drewN ?_ _ | refine gr_drew ?_))⟩
      · have HB : Hid (0 = pathsF l) := by rw [Hid, ← hd.out, List.drop_of_length_le (by simp; omega)]; rfl
        go_wp2
        go_ret
        exact ⟨ret_int HB.out, (by repeat (first | exact World.grownBy.refl _ _ | assumption | refine gr_alloc ?_ _ | (apply gr_tail; assumption) | refine gr_drewN ?_ _ | refine gr_drew ?_))⟩

set_option maxHeartbeats 800000 in
theorem checkPaths_any (A : Option Addr) (c : Nat) (l : List PathV) (w : World) (hl : Sl w 0 A l) :
    Calls Tryz.prog 27 #[.slice A l.length c] w fun e w' => e = .returned (.int .i64 (pathsF l)) ∧ w.grownBy w' none := by
  have hm := hl.1
  unfold maxLen at hm
  by_cases h0 : 200 < l.length
  · have HP : Hid (pathsF l = 2) := by simp [Hid, pathsF, h0]
    go_enter Tryz.func27, Tryz.ntmps27
    go_wp2
    go_ret
    exact ⟨ret_int HP.out.symm, (by repeat (first | exact World.grownBy.refl _ _ | assumption | refine gr_alloc ?_ _ | (apply gr_tail; assumption) | refine gr_drewN ?_ _ | refine gr_drew ?_))⟩
  · have HP : Hid (orL ((l.map pathF).drop 0) = pathsF l) := by simp only [Hid, pathsF]; rw [if_neg h0]; rfl
    go_enter Tryz.func27, Tryz.ntmps27
    go_wp2
    go_loopw [11] (fun i wr => ∃ k : Nat, k ≤ l.length ∧ i = .int .i64 k ∧ w.grownBy wr none ∧ Hid (orL ((l.map pathF).drop k) = pathsF l)) (fun i _ => l.length - (intOf i).toNat)
    case atStart => exact ⟨0, Nat.zero_le _, rfl, World.grownBy.refl _ _, HP⟩
    case round =>
      obtain ⟨k, hk, rfl, hg, hd⟩ := hrel
      by_cases hlt : k < l.length
      · obtain ⟨g, o, cx, rfl, hb0, hb1, ⟨A', c', rfl, hcp, hpts⟩, hc⟩ := (hl.pure hg).at_ (by decide) hlt
        have c0 : wr.cell? ⟨g, o + k * 2, none⟩ = some (.slice A' l[k].pts.length c') := hc 0 _ rfl
        have c1 : wr.cell? ⟨g, o + k * 2 + 1, none⟩ = some (.bool l[k].cl) := hc 1 _ rfl
        clear hc
        have HS := hide (orL_map_drop pathF hlt)
        go_wp2_with fail
        refine (pathFault_any _ _ l[k] _ (hpts.pure (gr_alloc (World.grownBy.refl _ _) _))).mono ?_
        rintro e w' ⟨rfl, hg'⟩
        by_cases hz : pathF l[k] = 0
        · have hb : (pathF l[k] != 0) = false := by simp [hz]
          have HT : Hid (orL ((l.map pathF).drop (k + 1)) = pathsF l) := by rw [Hid, ← hd.out, HS.out, if_neg (by simp [hz])]
          clear hz
          go_wp2_with fail
          (go_roundw; (case rel => exact ⟨k + 1, by omega, by go_num, (by repeat (first | exact World.grownBy.refl _ _ | assumption | refine gr_alloc ?_ _ | (apply gr_tail; assumption) | refine gr_drewN ?_ _ | refine gr_drew ?_)), HT⟩); (case measure => simp [intOf]; omega))
        · have hb : (pathF l[k] != 0) = true := by simp [hz]
          have HT : Hid (pathF l[k] = pathsF l) := by rw [Hid, ← hd.out, HS.out, if_pos hz]
          clear hz
          go_wp2_with fail
          go_ret
          exact ⟨ret_int HT.out, (by repeat (first | exact World.grownBy.refl _ _ | assumption | refine gr_alloc ?_ _ | (apply gr_tail; assumption) | refine gr_drewN ?_ _ | refine gr_drew ?_))⟩
      · have HB : Hid (0 = pathsF l) := by rw [Hid, ← hd.out, List.drop_of_length_le (by simp; omega)]; rfl
        go_wp2
        go_ret
        exact ⟨ret_int HB.out, (by repeat (first | exact World.grownBy.refl _ _ | assumption | refine gr_alloc ?_ _ | (apply gr_tail; assumption) | refine gr_drewN ?_ _ | refine gr_drew ?_))⟩

set_option maxHeartbeats 2000000 in
theorem visitForm_any (A : Option Addr) (c : Nat) (l : List PathV) (v : Vis) (w : World) (hl : Sl w 0 A l) (h0 : 0 ≤ v.path) (h1 : v.path < l.length) :
    Calls Tryz.prog 41 #[.slice A l.length c, .agg #[.int .i64 v.path, .int .i64 v.start, .bool v.back]] w fun e w' => e = .returned (.int .i64 (formF (l.getD v.path.toNat default) v)) ∧ w.grownBy w' none := by
  have hm := hl.1
  unfold maxLen at hm
  obtain ⟨vp, vs, vb⟩ := v
  simp only at h0 h1 ⊢
  obtain ⟨k, rfl⟩ := Int.eq_ofNat_of_zero_le h0
  have hlt : k < l.length := by omega
  obtain ⟨g, o, cx, rfl, hb0, hb1, ⟨A', c', rfl, hcp, hpts⟩, hc⟩ := hl.at_ (by decide) hlt
  have c0 : w.cell? ⟨g, o + k * 2, none⟩ = some (.slice A' l[k].pts.length c') := hc 0 _ rfl
  have c1 : w.cell? ⟨g, o + k * 2 + 1, none⟩ = some (.bool l[k].cl) := hc 1 _ rfl
  clear hc
  have hpm := hpts.1
  unfold maxLen at hpm
  obtain ⟨F, hF⟩ : ∃ F : Int, F = formF (l.getD (k : Int).toNat default) ⟨k, vs, vb⟩ := ⟨_, rfl⟩
  rw [← hF]
  have HFm : Hid (F = if (l[k].cl && vb || !l[k].cl && vs != 0) = true then 3 else spanF vs 0 (l[k].pts.length - 1)) := by
    rw [Hid, hF, ← formF_eq l[k] ⟨k, vs, vb⟩]; simp [List.getD, hlt]
  clear hF
  have hgne : g ≠ w.heap.size := by omega
  generalize l[k] = p at *
  obtain ⟨pts, cl⟩ := p
  go_enter Tryz.func41, Tryz.ntmps41
  cases cl <;> cases vb <;> go_wp2_with fail
  all_goals (go_ret; exact ⟨ret_int (by rw [HFm.out]; unfold spanF outB; simp_all; try omega), (by repeat (first | exact World.grownBy.refl _ _ | assumption | refine gr_alloc ?_ _ | (apply gr_tail; assumption) | refine gr_drewN ?_ _ | refine gr_drew ?_))⟩)

end Go.Proofs.YtgcfaamgilbjdaaGreatDoor

namespace Go.Proofs.YtgcfaamgilbjdaaGreatDoor
open Go.RowKit Go.Bl

theorem visitF_out {l : List PathV} {b : List Vis} {v : Vis} (h : ¬ (0 ≤ v.path ∧ v.path < l.length)) : visitF l b v = 1 := by
  unfold visitF
  rw [if_pos (by unfold inB; simp; omega)]

theorem visitF_seen {l : List PathV} {b : List Vis} {v : Vis} (h : 0 ≤ v.path ∧ v.path < l.length) (hs : hasP b v.path = true) : visitF l b v = 6 := by
  unfold visitF
  rw [if_neg (by unfold inB; simp; omega), if_pos hs]

theorem visitF_new {l : List PathV} {b : List Vis} {v : Vis} (h : 0 ≤ v.path ∧ v.path < l.length) (hs : hasP b v.path = false) : visitF l b v = formF (l.getD v.path.toNat default) v := by
  unfold visitF
  rw [if_neg (by unfold inB; simp; omega), if_neg (by simp [hs])]

theorem orderF_bad {l : List PathV} {o : List Vis} (h : pathsF l ≠ 0) : orderF l o = pathsF l := by
  unfold orderF; rw [orS_ne h]

end Go.Proofs.YtgcfaamgilbjdaaGreatDoor
