/- Contracts of functions that this seat's laws reach, each: what one call returns and what it leaves in memory; no condition beyond each theorem's own hypotheses. -/
import Derived.Test.YtmhnjpcjagbdhaaGreatZqPathM
import Derived.Test.YtmhnjpcjagbdhaaGreatZqHead
import Derived.Test.YtmhnjpcjagbdhaaGreatZqFlowB
set_option linter.unusedVariables false
set_option linter.unusedSimpArgs false
namespace Go.Proofs.YtmhnjpcjagbdhaaGreat
open Go.RowKit Go.Bl

def pointsF (l : List Pt) : Int := if l.any farP then 1 else 0

theorem pointsF_no {l : List Pt} (h : l.any farP = false) : pointsF l = 0 := by simp [pointsF, h]

theorem pointsF_yes {l : List Pt} (h : l.any farP = true) : pointsF l = 1 := by simp [pointsF, h]

theorem any_snoc {l : List Pt} {k : Nat} (h : k < l.length) : (l.take (k + 1)).any farP = ((l.take k).any farP || farP l[k]) := by rw [take_snoc h, List.any_append]; simp

theorem any_at {l : List Pt} {k : Nat} (h : k < l.length) (hf : farP l[k] = true) : l.any farP = true := List.any_eq_true.2 ⟨_, List.getElem_mem _, hf⟩

set_option maxHeartbeats 400000 in
theorem pointFault_any (A : Option Addr) (c : Nat) (l : List Pt) (w : World) (hl : Sl w 0 A l) :
    Calls Tryz.prog 14 #[.slice A l.length c] w fun e w' => e = .returned (.int .i64 (pointsF l)) ∧ w.grownBy w' none := by
  have hm := hl.1
  unfold maxLen at hm
  go_enter Tryz.func14, Tryz.ntmps14
  go_wp2
  go_loopw [7] (fun i wr => ∃ k : Nat, k ≤ l.length ∧ i = .int .i64 k ∧ w.grownBy wr none ∧ Hid ((l.take k).any farP = false)) (fun i _ => l.length - (intOf i).toNat)
  case atStart => exact ⟨0, Nat.zero_le _, rfl, World.grownBy.refl _ _, by simp [Hid]⟩
  case round =>
    obtain ⟨k, hk, rfl, hg, hall⟩ := hrel
    by_cases hlt : k < l.length
    · obtain ⟨g, o, cx, rfl, hb0, hb1, rfl, hc⟩ := (hl.pure hg).at_ (by decide) hlt
      have c0 : wr.cell? ⟨g, o + k * 2, none⟩ = some (.int .i64 l[k].x) := hc 0 _ rfl
      have c1 : wr.cell? ⟨g, o + k * 2 + 1, none⟩ = some (.int .i64 l[k].y) := hc 1 _ rfl
      clear hc
      have HF : Hid (farP l[k] = (!inB l[k].x (-100000) 100000 || !inB l[k].y (-100000) 100000)) := by simp only [Hid, farP, inB_not]
      have HS := hide (any_snoc hlt)
      have HA : Hid (farP l[k] = true → l.any farP = true) := any_at hlt
      go_wp2_with (go_at_call 48; refine (in_any _ _ _ _).mono ?_; rintro e w' ⟨rfl, rfl⟩)
      all_goals first
        | (go_ret; exact ⟨ret_int (pointsF_yes (HA.out (by rw [HF.out]; simp [*]))).symm, (by repeat (first | exact World.grownBy.refl _ _ | assumption | refine gr_alloc ?_ _ | refine gr_drewN ?_ _ | refine gr_drew ?_))⟩)
        | (go_roundw; (case rel => exact ⟨k + 1, by omega, by go_num, (by repeat (first | exact World.grownBy.refl _ _ | assumption | refine gr_alloc ?_ _ | refine gr_drewN ?_ _ | refine gr_drew ?_)), by simp only [Hid]; rw [HS.out, hall.out, HF.out]; simp [*]⟩); (case measure => simp [intOf]; omega))
    · have HB : Hid (pointsF l = 0) := pointsF_no (by have := hall.out; rwa [List.take_of_length_le (by omega)] at this)
      go_wp2
      go_ret
      exact ⟨ret_int HB.out.symm, hg⟩

set_option maxHeartbeats 400000 in
theorem isFar_any (p : Pt) (w : World) :
    Calls Tryz.prog 39 #[.agg #[.int .i64 p.x, .int .i64 p.y]] w fun e w' => e = .returned (.bool (farP p)) ∧ w.grownBy w' none := by
  go_enter Tryz.func39, Tryz.ntmps39
  go_wp2_with (go_at_call 42; refine (outside_any _ _ _ _).mono ?_; rintro e w' ⟨rfl, rfl⟩)
  all_goals (go_ret; exact ⟨ret_bool (by simp [farP, *]), (by repeat (first | exact World.grownBy.refl _ _ | assumption | refine gr_alloc ?_ _ | refine gr_drewN ?_ _ | refine gr_drew ?_))⟩)

set_option maxHeartbeats 400000 in
theorem indexFar_any (A : Option Addr) (c : Nat) (l : List Pt) (w : World) (hl : Sl w 0 A l) :
    Calls Tryz.prog 108 #[.slice A l.length c, .func (.func 39) #[] #[]] w fun e w' => ∃ r : Int, e = .returned (.int .i64 r) ∧ decide (0 ≤ r) = l.any farP ∧ w.grownBy w' none := by
  have hm := hl.1
  unfold maxLen at hm
  go_enter Tryz.func108, Tryz.ntmps108
  go_wp2
  go_loopw [8] (fun i wr => ∃ k : Nat, k ≤ l.length ∧ i = .int .i64 k ∧ w.grownBy wr none ∧ Hid ((l.take k).any farP = false)) (fun i _ => l.length - (intOf i).toNat)
  case atStart => exact ⟨0, Nat.zero_le _, rfl, World.grownBy.refl _ _, by simp [Hid]⟩
  case round =>
    obtain ⟨k, hk, rfl, hg, hall⟩ := hrel
    by_cases hlt : k < l.length
    · obtain ⟨g, o, cx, rfl, hb0, hb1, rfl, hc⟩ := (hl.pure hg).at_ (by decide) hlt
      have c0 : wr.cell? ⟨g, o + k * 2, none⟩ = some (.int .i64 l[k].x) := hc 0 _ rfl
      have c1 : wr.cell? ⟨g, o + k * 2 + 1, none⟩ = some (.int .i64 l[k].y) := hc 1 _ rfl
      clear hc
      have HS := hide (any_snoc hlt)
      have HA : Hid (farP l[k] = true → l.any farP = true) := any_at hlt
      go_wp2_with fail
      refine (isFar_any l[k] _).mono ?_
      rintro e w' ⟨rfl, hg'⟩
      rcases hf : farP l[k] with _ | _
      · go_wp2_with fail
        go_roundw
        case rel => exact ⟨k + 1, by omega, by go_num, gr_trans hg hg', by simp only [Hid]; rw [HS.out, hall.out, hf]; rfl⟩
        case measure => simp [intOf]; omega
      · have HB := hide (HA.out hf)
        go_wp2_with fail
        go_ret
        exact ⟨k, rfl, by rw [HB.out]; simp, gr_trans hg hg'⟩
    · have HB : Hid (l.any farP = false) := by have := hall.out; rwa [List.take_of_length_le (by omega)] at this
      go_wp2
      go_ret
      exact ⟨-1, rfl, by rw [HB.out]; rfl, hg⟩

set_option maxHeartbeats 400000 in
theorem containsFar_any (A : Option Addr) (c : Nat) (l : List Pt) (w : World) (hl : Sl w 0 A l) :
    Calls Tryz.prog 92 #[.slice A l.length c, .func (.func 39) #[] #[]] w fun e w' => e = .returned (.bool (l.any farP)) ∧ w.grownBy w' none := by
  go_enter Tryz.func92, Tryz.ntmps92
  go_wp2_with fail
  refine (indexFar_any _ _ _ _ hl).mono ?_
  rintro e w1 ⟨r, rfl, hr, hg⟩
  replace hr := hide hr
  go_wp2_with fail
  go_ret
  exact ⟨ret_bool hr.out, hg⟩

set_option maxHeartbeats 400000 in
theorem pathFaultRef_any (A : Option Addr) (c : Nat) (p : PathV) (w : World) (hl : Sl w 0 A p.pts) :
    Calls Tryz.prog 50 #[.agg #[.slice A p.pts.length c, .bool p.cl]] w fun e w' => e = .returned (.int .i64 (pathF p)) ∧ w.grownBy w' none := by
  have hm := hl.1
  unfold maxLen at hm
  obtain ⟨pts, cl⟩ := p
  simp only at hl hm ⊢
  have HP : Hid (pathF ⟨pts, cl⟩ = if pts.length = 0 then 8 else if 500 < pts.length then 2 else if cl = true ∧ pts.length < 3 then 3 else pointsF pts) := rfl
  go_enter Tryz.func50, Tryz.ntmps50
  cases cl <;> go_wp2_with (go_at_call 14; refine (pointFault_any _ _ _ _ (hl.pure (by repeat (first | exact World.grownBy.refl _ _ | assumption | refine gr_alloc ?_ _ | refine gr_drewN ?_ _ | refine gr_drew ?_)))).mono ?_; rintro e w' ⟨rfl, hg'⟩)
  all_goals (go_ret; exact ⟨ret_int (by clear hl; rw [HP.out]; (repeat' split) <;> simp_all <;> omega), (by repeat (first | exact World.grownBy.refl _ _ | assumption | refine gr_alloc ?_ _ | (apply gr_tail; assumption) | refine gr_drewN ?_ _ | refine gr_drew ?_))⟩)

set_option maxHeartbeats 400000 in
theorem pathFault_any (A : Option Addr) (c : Nat) (p : PathV) (w : World) (hl : Sl w 0 A p.pts) :
    Calls Tryz.prog 77 #[.agg #[.slice A p.pts.length c, .bool p.cl]] w fun e w' => e = .returned (.int .i64 (pathF p)) ∧ w.grownBy w' none := by
  have hm := hl.1
  unfold maxLen at hm
  obtain ⟨pts, cl⟩ := p
  simp only at hl hm ⊢
  have HP : Hid (pathF ⟨pts, cl⟩ = if pts.length = 0 then 8 else if 500 < pts.length then 2 else if cl = true ∧ pts.length < 3 then 3 else pointsF pts) := rfl
  go_enter Tryz.func77, Tryz.ntmps77
  cases cl <;> go_wp2_with (go_at_call 92; refine (containsFar_any _ _ _ _ (hl.pure (by repeat (first | exact World.grownBy.refl _ _ | assumption | refine gr_alloc ?_ _ | refine gr_drewN ?_ _ | refine gr_drew ?_)))).mono ?_; rintro e w' ⟨rfl, hg'⟩)
  all_goals (go_ret; exact ⟨ret_int (by clear hl; unfold pointsF at HP; rw [HP.out]; (repeat' split) <;> simp_all <;> omega), (by repeat (first | exact World.grownBy.refl _ _ | assumption | refine gr_alloc ?_ _ | (apply gr_tail; assumption) | refine gr_drewN ?_ _ | refine gr_drew ?_))⟩)

end Go.Proofs.YtmhnjpcjagbdhaaGreat

namespace Go.Proofs.YtmhnjpcjagbdhaaGreat
open Go.RowKit Go.Bl

set_option maxHeartbeats 800000 in
theorem pathsFaultRef_any (A : Option Addr) (c : Nat) (l : List PathV) (w : World) (hl : Sl w 0 A l) :
    Calls Tryz.prog 17 #[.slice A l.length c] w fun e w' => e = .returned (.int .i64 (pathsF l)) ∧ w.grownBy w' none := by
  have hm := hl.1
  unfold maxLen at hm
  by_cases h0 : 200 < l.length
  · have HP : Hid (pathsF l = 2) := by simp [Hid, pathsF, h0]
    go_enter Tryz.func17, Tryz.ntmps17
    go_wp2
    go_ret
    exact ⟨ret_int HP.out.symm, (by repeat (first | exact World.grownBy.refl _ _ | assumption | refine gr_alloc ?_ _ | (apply gr_tail; assumption) | refine gr_drewN ?_ _ | refine gr_drew ?_))⟩
  · have HP : Hid (orL ((l.map pathF).drop 0) = pathsF l) := by simp only [Hid, pathsF]; rw [if_neg h0]; rfl
    go_enter Tryz.func17, Tryz.ntmps17
    go_wp2
    go_loopw [11] (fun i wr => ∃ k : Nat, k ≤ l.length ∧ i = .int .i64 k ∧ w.grownBy wr none ∧ Hid (orL ((l.map pathF).drop k) = pathsF l)) (fun i _ => l.length - (intOf i).toNat)
    case atStart => exact ⟨0, Nat.zero_le _, rfl, World.grownBy.refl _ _, HP⟩
    case round =>
      obtain ⟨k, hk, rfl, hg, hd⟩ := hrel
      by_cases hlt : k < l.length
      · obtain ⟨g, o, cx, rfl, hb0, hb1, ⟨A', c', rfl, hcp, hpts⟩, hc⟩ := (hl.pure hg).at_ (by decide) hlt
        have c0 : wr.cell? ⟨g, o + k * 2, none⟩ = some (.slice A' l[k].pts.length c') := hc 0 _ rfl
        have c1 : wr.cell? ⟨g, o + k * 2 + 1, none⟩ = some (.bool l[k].cl) := hc 1 _ rfl
        clear hc
        have HS := hide (orL_map_drop pathF hlt)
        go_wp2_with fail
        refine (pathFaultRef_any _ _ l[k] _ (hpts.pure (gr_alloc (World.grownBy.refl _ _) _))).mono ?_
        rintro e w' ⟨rfl, hg'⟩
        by_cases hz : pathF l[k] = 0
        · have hb : (pathF l[k] != 0) = false := by simp [hz]
          have HT : Hid (orL ((l.map pathF).drop (k + 1)) = pathsF l) := by rw [Hid, ← hd.out, HS.out, if_neg (by simp [hz])]
          clear hz
          go_wp2_with fail
          (go_roundw; (case rel => exact ⟨k + 1, by omega, by go_num, (by repeat (first | exact World.grownBy.refl _ _ | assumption | refine gr_alloc ?_ _ | (apply gr_tail; assumption) | refine gr_drewN ?_ _ | refine gr_drew ?_)), HT⟩); (case measure => simp [intOf]; omega))
        · have hb : (pathF l[k] != 0) = true := by simp [hz]
          have HT : Hid (pathF l[k] = pathsF l) := by rw [Hid, ← hd.out, HS.out, if_pos hz]
          clear hz
          go_wp2_with fail
          go_ret
          exact ⟨ret_int HT.out, (by repeat (first | exact World.grownBy.refl _ _ | assumption | refine gr_alloc ?_ _ | (apply gr_tail; assumption) | refine gr_drewN ?_ _ | refine gr_drew ?_))⟩
      · have HB : Hid (0 = pathsF l) := by rw [Hid, ← hd.out, List.drop_of_length_le (by simp; omega)]; rfl
        go_wp2
        go_ret
        exact ⟨ret_int HB.out, (by repeat (first | exact World.grownBy.refl _ _ | assumption | refine gr_alloc ?_ _ | (apply gr_tail; assumption) | refine gr_drewN ?_ _ | refine gr_drew ?_))⟩

set_option maxHeartbeats 800000 in
theorem checkPaths_any (A : Option Addr) (c : Nat) (l : List PathV) (w : World) (hl : Sl w 0 A l) :
    Calls Tryz.prog 45 #[.slice A l.length c] w fun e w' => e = .returned (.int .i64 (pathsF l)) ∧ w.grownBy w' none := by
  have hm := hl.1
  unfold maxLen at hm
  by_cases h0 : 200 < l.length
  · have HP : Hid (pathsF l = 2) := by simp [Hid, pathsF, h0]
    go_enter Tryz.func45, Tryz.ntmps45
    go_wp2
    go_ret
    exact ⟨ret_int HP.out.symm, (by repeat (first | exact World.grownBy.refl _ _ | assumption | refine gr_alloc ?_ _ | (apply gr_tail; assumption) | refine gr_drewN ?_ _ | refine gr_drew ?_))⟩
  · have HP : Hid (orL ((l.map pathF).drop 0) = pathsF l) := by simp only [Hid, pathsF]; rw [if_neg h0]; rfl
    go_enter Tryz.func45, Tryz.ntmps45
    go_wp2
    go_loopw [11] (fun i wr => ∃ k : Nat, k ≤ l.length ∧ i = .int .i64 k ∧ w.grownBy wr none ∧ Hid (orL ((l.map pathF).drop k) = pathsF l)) (fun i _ => l.length - (intOf i).toNat)
    case atStart => exact ⟨0, Nat.zero_le _, rfl, World.grownBy.refl _ _, HP⟩
    case round =>
      obtain ⟨k, hk, rfl, hg, hd⟩ := hrel
      by_cases hlt : k < l.length
      · obtain ⟨g, o, cx, rfl, hb0, hb1, ⟨A', c', rfl, hcp, hpts⟩, hc⟩ := (hl.pure hg).at_ (by decide) hlt
        have c0 : wr.cell? ⟨g, o + k * 2, none⟩ = some (.slice A' l[k].pts.length c') := hc 0 _ rfl
        have c1 : wr.cell? ⟨g, o + k * 2 + 1, none⟩ = some (.bool l[k].cl) := hc 1 _ rfl
        clear hc
        have HS := hide (orL_map_drop pathF hlt)
        go_wp2_with fail
        refine (pathFault_any _ _ l[k] _ (hpts.pure (gr_alloc (World.grownBy.refl _ _) _))).mono ?_
        rintro e w' ⟨rfl, hg'⟩
        by_cases hz : pathF l[k] = 0
        · have hb : (pathF l[k] != 0) = false := by simp [hz]
          have HT : Hid (orL ((l.map pathF).drop (k + 1)) = pathsF l) := by rw [Hid, ← hd.out, HS.out, if_neg (by simp [hz])]
          clear hz
          go_wp2_with fail
          (go_roundw; (case rel => exact ⟨k + 1, by omega, by go_num, (by repeat (first | exact World.grownBy.refl _ _ | assumption | refine gr_alloc ?_ _ | (apply gr_tail; assumption) | refine gr_drewN ?_ _ | refine gr_drew ?_)), HT⟩); (case measure => simp [intOf]; omega))
        · have hb : (pathF l[k] != 0) = true := by simp [hz]
          have HT : Hid (pathF l[k] = pathsF l) := by rw [Hid, ← hd.out, HS.out, if_pos hz]
          clear hz
          go_wp2_with fail
          go_ret
          exact ⟨ret_int HT.out, (by repeat (first | exact World.grownBy.refl _ _ | assumption | refine gr_alloc ?_ _ | (apply gr_tail; assumption) | refine gr_drewN ?_ _ | refine gr_drew ?_))⟩
      · have HB : Hid (0 = pathsF l) := by rw [Hid, ← hd.out, List.drop_of_length_le (by simp; omega)]; rfl
        go_wp2
        go_ret
        exact ⟨ret_int HB.out, (by repeat (first | exact World.grownBy.refl _ _ | assumption | refine gr_alloc ?_ _ | (apply gr_tail; assumption) | refine gr_drewN ?_ _ | refine gr_drew ?_))⟩

set_option maxHeartbeats 400000 in
theorem samePath_any (v : Vis) (p : Int) (gc : Nat) (w : World) (hp : w.cell? ⟨gc, 0, none⟩ = some (.int .i64 p)) :
    Calls Tryz.prog 80 #[.agg #[.int .i64 v.path, .int .i64 v.start, .bool v.back], .pointer (some ⟨gc, 0, none⟩)] w fun e w' => e = .returned (.bool (v.path == p)) ∧ w.grownBy w' none := by
  have hlt := cell_lt hp
  simp only at hlt
  have hne : gc ≠ w.heap.size := by omega
  go_enter Tryz.func80, Tryz.ntmps80
  go_wp2
  go_ret
  exact ⟨rfl, (by repeat (first | exact World.grownBy.refl _ _ | assumption | refine gr_alloc ?_ _ | (apply gr_tail; assumption) | refine gr_drewN ?_ _ | refine gr_drew ?_))⟩

set_option maxHeartbeats 800000 in
theorem indexPath_any (A : Option Addr) (c : Nat) (l : List Vis) (p : Int) (gc : Nat) (w : World) (hl : Sl w 0 A l) (hp : w.cell? ⟨gc, 0, none⟩ = some (.int .i64 p)) :
    Calls Tryz.prog 94 #[.slice A l.length c, .func (.func 80) #[] #[.pointer (some ⟨gc, 0, none⟩)]] w fun e w' => ∃ r : Int, e = .returned (.int .i64 r) ∧ decide (0 ≤ r) = hasP l p ∧ w.grownBy w' none := by
  have hm := hl.1
  unfold maxLen at hm
  go_enter Tryz.func94, Tryz.ntmps94
  go_wp2
  go_loopw [8] (fun i wr => ∃ k : Nat, k ≤ l.length ∧ i = .int .i64 k ∧ w.grownBy wr none ∧ Hid (hasP (l.take k) p = false)) (fun i _ => l.length - (intOf i).toNat)
  case atStart => exact ⟨0, Nat.zero_le _, rfl, World.grownBy.refl _ _, by simp [Hid, hasP]⟩
  case round =>
    obtain ⟨k, hk, rfl, hg, hall⟩ := hrel
    by_cases hlt : k < l.length
    · obtain ⟨g, o, cx, rfl, hb0, hb1, rfl, hc⟩ := (hl.pure hg).at_ (by decide) hlt
      have v0 : wr.cell? ⟨g, o + k * 3, none⟩ = some (.int .i64 l[k].path) := hc 0 _ rfl
      have v1 : wr.cell? ⟨g, o + k * 3 + 1, none⟩ = some (.int .i64 l[k].start) := hc 1 _ rfl
      have v2 : wr.cell? ⟨g, o + k * 3 + 2, none⟩ = some (.bool l[k].back) := hc 2 _ rfl
      clear hc
      have hp' := hg.k hp
      have HS := hide (hasP_snoc hlt p)
      have HA : Hid ((l[k].path == p) = true → hasP l p = true) := fun h => List.any_eq_true.2 ⟨_, List.getElem_mem _, h⟩
      go_wp2_with fail
      refine (samePath_any l[k] p gc _ hp').mono ?_
      rintro e w' ⟨rfl, hg'⟩
      rcases hf : (l[k].path == p) with _ | _
      · go_wp2_with fail
        (go_roundw; (case rel => exact ⟨k + 1, by omega, by go_num, (by repeat (first | exact World.grownBy.refl _ _ | assumption | refine gr_alloc ?_ _ | (apply gr_tail; assumption) | refine gr_drewN ?_ _ | refine gr_drew ?_)), by simp only [Hid]; rw [HS.out, hall.out, hf]; rfl⟩); (case measure => simp [intOf]; omega))
      · have HB := hide (HA.out hf)
        go_wp2_with fail
        go_ret
        exact ⟨k, rfl, by rw [HB.out]; simp, (by repeat (first | exact World.grownBy.refl _ _ | assumption | refine gr_alloc ?_ _ | (apply gr_tail; assumption) | refine gr_drewN ?_ _ | refine gr_drew ?_))⟩
    · have HB : Hid (hasP l p = false) := by have := hall.out; rwa [List.take_of_length_le (by omega)] at this
      go_wp2
      go_ret
      exact ⟨-1, rfl, by rw [HB.out]; rfl, hg⟩

set_option maxHeartbeats 400000 in
theorem containsPath_any (A : Option Addr) (c : Nat) (l : List Vis) (p : Int) (gc : Nat) (w : World) (hl : Sl w 0 A l) (hp : w.cell? ⟨gc, 0, none⟩ = some (.int .i64 p)) :
    Calls Tryz.prog 79 #[.slice A l.length c, .func (.func 80) #[] #[.pointer (some ⟨gc, 0, none⟩)]] w fun e w' => e = .returned (.bool (hasP l p)) ∧ w.grownBy w' none := by
  go_enter Tryz.func79, Tryz.ntmps79
  go_wp2_with fail
  refine (indexPath_any _ _ _ p gc _ hl hp).mono ?_
  rintro e w1 ⟨r, rfl, hr, hg⟩
  replace hr := hide hr
  go_wp2_with fail
  go_ret
  exact ⟨ret_bool hr.out, hg⟩

theorem form_guard (cl back : Bool) (start : Int) : (cl && back || !cl && start != 0) = true ∨ (cl && back || !cl && start != 0) = false := by cases (cl && back || !cl && start != 0) <;> simp

set_option maxHeartbeats 2000000 in
theorem visitFaultRef_any (A : Option Addr) (c : Nat) (l : List PathV) (B : Option Addr) (d : Nat) (b : List Vis) (v : Vis) (w : World) (hl : Sl w 0 A l) (hb : Sl w 0 B b) :
    Calls Tryz.prog 49 #[.slice A l.length c, .slice B b.length d, .agg #[.int .i64 v.path, .int .i64 v.start, .bool v.back]] w fun e w' => e = .returned (.int .i64 (visitF l b v)) ∧ w.grownBy w' none := by
  have hm := hl.1
  unfold maxLen at hm
  obtain ⟨vp, vs, vb⟩ := v
  simp only
  have HV : Hid (visitF l b ⟨vp, vs, vb⟩ = if inB vp 0 (l.length - 1) = false then 1 else if hasP b vp then 6 else formF (l.getD vp.toNat default) ⟨vp, vs, vb⟩) := rfl
  rcases hin : inB vp 0 ((l.length : Int) - 1) with _ | _
  · have HT : Hid (1 = visitF l b ⟨vp, vs, vb⟩) := by rw [Hid, HV.out, if_pos hin]
    go_enter Tryz.func49, Tryz.ntmps49
    go_wp2_with (go_at_call 48; refine (in_any _ _ _ _).mono ?_; rintro e w' ⟨rfl, rfl⟩)
    go_ret
    exact ⟨ret_int HT.out, (by repeat (first | exact World.grownBy.refl _ _ | assumption | refine gr_alloc ?_ _ | (apply gr_tail; assumption) | refine gr_drewN ?_ _ | refine gr_drew ?_))⟩
  · have hin2 : 0 ≤ vp ∧ vp ≤ l.length - 1 := by simpa [inB] using hin
    obtain ⟨k, rfl⟩ := Int.eq_ofNat_of_zero_le hin2.1
    have hlt : k < l.length := by omega
    obtain ⟨g, o, cx, rfl, hb0, hb1, ⟨A', c', rfl, hcp, hpts⟩, hc⟩ := hl.at_ (by decide) hlt
    have c0 : w.cell? ⟨g, o + k * 2, none⟩ = some (.slice A' l[k].pts.length c') := hc 0 _ rfl
    have c1 : w.cell? ⟨g, o + k * 2 + 1, none⟩ = some (.bool l[k].cl) := hc 1 _ rfl
    clear hc
    have hpm := hpts.1
    unfold maxLen at hpm
    have HV2 : Hid (visitF l b ⟨k, vs, vb⟩ = if hasP b k then 6 else formF l[k] ⟨k, vs, vb⟩) := by
      rw [Hid, HV.out, if_neg (by simp [hin])]
      simp [List.getD, hlt]
    have HFm := hide (formF_eq l[k] ⟨k, vs, vb⟩)
    have hgne : g ≠ w.heap.size ∧ g ≠ w.heap.size + 1 := by omega
    go_enter Tryz.func49, Tryz.ntmps49
    go_wp2_with (go_at_call 48; refine (in_any _ _ _ _).mono ?_; rintro e w' ⟨rfl, rfl⟩)
    refine (containsPath_any _ _ _ k w.heap.size _ (hb.pure (by repeat (first | exact World.grownBy.refl _ _ | assumption | refine gr_alloc ?_ _ | refine gr_drewN ?_ _ | refine gr_drew ?_))) (by go_simp)).mono ?_
    rintro e w2 ⟨rfl, hg2⟩
    have b0 := (hg2).k (p := ⟨w.heap.size, 0, none⟩) (v := .int .i64 k) (by go_simp)
    have b1 := (hg2).k (p := ⟨w.heap.size, 1, none⟩) (v := .int .i64 vs) (by go_simp)
    have b2 := (hg2).k (p := ⟨w.heap.size, 2, none⟩) (v := .bool vb) (by go_simp)
    have d0 := (hg2).k (p := ⟨w.heap.size + 1, 0, none⟩) (v := .slice A' l[k].pts.length c') (by go_simp)
    have d1 := (hg2).k (p := ⟨w.heap.size + 1, 1, none⟩) (v := .bool l[k].cl) (by go_simp)
    rcases hh : hasP b k with _ | _
    · have HV3 : Hid (visitF l b ⟨k, vs, vb⟩ = if (l[k].cl && vb || !l[k].cl && vs != 0) = true then 3 else spanF vs 0 (l[k].pts.length - 1)) := by rw [Hid, HV2.out, if_neg (by simp [hh]), HFm.out]
      generalize l[k] = p at *
      obtain ⟨pts, cl⟩ := p
      cases cl <;> cases vb <;> go_wp2_with (go_at_call 16; refine (spanFault_any _ _ _ _).mono ?_; rintro e w' ⟨rfl, rfl⟩)
      all_goals (go_ret; exact ⟨ret_int (by rw [HV3.out]; simp_all), (by repeat (first | exact World.grownBy.refl _ _ | assumption | refine gr_alloc ?_ _ | (apply gr_tail; assumption) | refine gr_drewN ?_ _ | refine gr_drew ?_))⟩)
    · have HT : Hid (6 = visitF l b ⟨k, vs, vb⟩) := by rw [Hid, HV2.out, if_pos hh]
      go_wp2_with fail
      go_ret
      exact ⟨ret_int HT.out, (by repeat (first | exact World.grownBy.refl _ _ | assumption | refine gr_alloc ?_ _ | (apply gr_tail; assumption) | refine gr_drewN ?_ _ | refine gr_drew ?_))⟩

set_option maxHeartbeats 2000000 in
theorem visitForm_any (A : Option Addr) (c : Nat) (l : List PathV) (v : Vis) (w : World) (hl : Sl w 0 A l) (h0 : 0 ≤ v.path) (h1 : v.path < l.length) :
    Calls Tryz.prog 91 #[.slice A l.length c, .agg #[.int .i64 v.path, .int .i64 v.start, .bool v.back]] w fun e w' => e = .returned (.int .i64 (formF (l.getD v.path.toNat default) v)) ∧ w.grownBy w' none := by
  have hm := hl.1
  unfold maxLen at hm
  obtain ⟨vp, vs, vb⟩ := v
  simp only at h0 h1 ⊢
  obtain ⟨k, rfl⟩ := Int.eq_ofNat_of_zero_le h0
  have hlt : k < l.length := by omega
  obtain ⟨g, o, cx, rfl, hb0, hb1, ⟨A', c', rfl, hcp, hpts⟩, hc⟩ := hl.at_ (by decide) hlt
  have c0 : w.cell? ⟨g, o + k * 2, none⟩ = some (.slice A' l[k].pts.length c') := hc 0 _ rfl
  have c1 : w.cell? ⟨g, o + k * 2 + 1, none⟩ = some (.bool l[k].cl) := hc 1 _ rfl
  clear hc
  have hpm := hpts.1
  unfold maxLen at hpm
  obtain ⟨F, hF⟩ : ∃ F : Int, F = formF (l.getD (k : Int).toNat default) ⟨k, vs, vb⟩ := ⟨_, rfl⟩
  rw [← hF]
  have HFm : Hid (F = if (l[k].cl && vb || !l[k].cl && vs != 0) = true then 3 else spanF vs 0 (l[k].pts.length - 1)) := by
    rw [Hid, hF, ← formF_eq l[k] ⟨k, vs, vb⟩]; simp [List.getD, hlt]
  clear hF
  have hgne : g ≠ w.heap.size := by omega
  generalize l[k] = p at *
  obtain ⟨pts, cl⟩ := p
  go_enter Tryz.func91, Tryz.ntmps91
  cases cl <;> cases vb <;> go_wp2_with fail
  all_goals (go_ret; exact ⟨ret_int (by rw [HFm.out]; unfold spanF outB; simp_all; try omega), (by repeat (first | exact World.grownBy.refl _ _ | assumption | refine gr_alloc ?_ _ | (apply gr_tail; assumption) | refine gr_drewN ?_ _ | refine gr_drew ?_))⟩)

end Go.Proofs.YtmhnjpcjagbdhaaGreat

namespace Go.Proofs.YtmhnjpcjagbdhaaGreat
open Go.RowKit Go.Bl

theorem visitF_out {l : List PathV} {b : List Vis} {v : Vis} (h : ¬ (0 ≤ v.path ∧ v.path < l.length)) : visitF l b v = 1 := by
  unfold visitF
  rw [if_pos (by unfold inB; simp; omega)]

theorem visitF_seen {l : List PathV} {b : List Vis} {v : Vis} (h : 0 ≤ v.path ∧ v.path < l.length) (hs : hasP b v.path = true) : visitF l b v = 6 := by
  unfold visitF
  rw [if_neg (by unfold inB; simp; omega), if_pos hs]

theorem visitF_new {l : List PathV} {b : List Vis} {v : Vis} (h : 0 ≤ v.path ∧ v.path < l.length) (hs : hasP b v.path = false) : visitF l b v = formF (l.getD v.path.toNat default) v := by
  unfold visitF
  rw [if_neg (by unfold inB; simp; omega), if_neg (by simp [hs])]

theorem orderF_len {l : List PathV} {o : List Vis} (h : pathsF l = 0) (hl : o.length ≠ l.length) : orderF l o = 3 := by
  unfold orderF; rw [orS_zero h, if_pos hl]

theorem orderF_ok {l : List PathV} {o : List Vis} (h : pathsF l = 0) (hl : o.length = l.length) : orderF l o = visitsF l [] o := by
  unfold orderF; rw [orS_zero h, if_neg (by simp [hl])]

theorem orderF_bad {l : List PathV} {o : List Vis} (h : pathsF l ≠ 0) : orderF l o = pathsF l := by
  unfold orderF; rw [orS_ne h]

theorem visitFaultRefN_any (A : Option Addr) (c : Nat) (l : List PathV) (B : Option Addr) (n d : Nat) (b : List Vis) (hn : b.length = n) (v : Vis) (w : World) (hl : Sl w 0 A l) (hb : Sl w 0 B b) :
    Calls Tryz.prog 49 #[.slice A l.length c, .slice B n d, .agg #[.int .i64 v.path, .int .i64 v.start, .bool v.back]] w fun e w' => e = .returned (.int .i64 (visitF l b v)) ∧ w.grownBy w' none := by
  subst hn
  exact visitFaultRef_any A c l B d b v w hl hb

set_option maxHeartbeats 2000000 in
theorem orderFaultRef_any (A : Option Addr) (c : Nat) (l : List PathV) (B : Option Addr) (d : Nat) (o : List Vis) (w : World) (hl : Sl w 0 A l) (ho : Sl w 0 B o) (hd : o.length ≤ d) :
    Calls Tryz.prog 15 #[.slice A l.length c, .slice B o.length d] w fun e w' => e = .returned (.int .i64 (orderF l o)) ∧ w.grownBy w' none := by
  have hm := hl.1
  unfold maxLen at hm
  have hm2 := ho.1
  unfold maxLen at hm2
  by_cases hp : pathsF l = 0
  · have hb : (pathsF l != 0) = false := by simp [hp]
    by_cases hol : o.length = l.length
    · have HO := hide (orderF_ok hp hol)
      have hnl : ((o.length : Int) != l.length) = false := by simp [hol]
      have hnl2 : (o.length != l.length) = false := by simp [hol]
      replace hol := hide hol
      clear hp
      go_enter Tryz.func15, Tryz.ntmps15
      go_wp2_with fail
      refine (pathsFaultRef_any _ _ l _ hl).mono ?_
      rintro e w1 ⟨rfl, hg1⟩
      go_wp2_with fail
      go_loopw [21] (fun i wr => ∃ k : Nat, k ≤ o.length ∧ i = .int .i64 k ∧ w.grownBy wr none ∧ Hid (visitsF l (o.take k) (o.drop k) = orderF l o)) (fun i _ => o.length - (intOf i).toNat)
      case atStart => exact ⟨0, Nat.zero_le _, rfl, hg1, by rw [Hid, HO.out]; rfl⟩
      case round =>
        obtain ⟨k, hk, rfl, hg, hdr⟩ := hrel
        by_cases hlt : k < o.length
        · have hok := hide (rfl : o[k] = o[k])
          obtain ⟨g, of, cx, rfl, hb0, hb1, rfl, hc⟩ := (ho.pure hg).at_ (by decide) hlt
          have v0 : wr.cell? ⟨g, of + k * 3, none⟩ = some (.int .i64 o[k].path) := hc 0 _ rfl
          have v1 : wr.cell? ⟨g, of + k * 3 + 1, none⟩ = some (.int .i64 o[k].start) := hc 1 _ rfl
          have v2 : wr.cell? ⟨g, of + k * 3 + 2, none⟩ = some (.bool o[k].back) := hc 2 _ rfl
          clear hc
          have hkd : k ≤ d := by omega
          have htk : Hid ((o.take k).length = k) := by simp [Hid]; omega
          have HS := hide (visitsF_drop l hlt)
          go_wp2_with fail
          refine wp_region_fix 7 ((fun wx => (wr.alloc (.cells #[.int .i64 o[k].path, .int .i64 o[k].start, .bool o[k].back] 68)).grownBy wx none)) (by kernel_rfl) (by kernel_rfl) (gr_drew (World.grownBy.refl _ _)) ?_
          simp only [List.take_succ_cons, List.take_zero, List.drop_succ_cons, List.drop_zero]
          iterate 3 ((refine fix_b (fun K hK => ?_); apply Exists.intro; refine ⟨fun wx hC K' hK' => ?_, ?_⟩; (focus (replace hK' := hide hK'; skip; go_wp2_with fail; exact hK'.out _ hC)); go_simp; refine hK _ ?_; clear hK K))
          (refine fix_b (fun K hK => ?_); apply Exists.intro; refine ⟨fun wx hC K' hK' => ?_, ?_⟩; (focus (replace hK' := hide hK'; skip; go_wp2_with fail; exact hK'.out _ hC)); go_simp; refine hK _ ?_; clear hK K)
          (refine fix_b (fun K hK => ?_); apply Exists.intro; refine ⟨fun wx hC K' hK' => ?_, ?_⟩; (focus (replace hK' := hide hK'; (have b0 := hC.k (p := ⟨wr.heap.size, 0, none⟩) (v := .int .i64 o[k].path) (by go_simp); have b1 := hC.k (p := ⟨wr.heap.size, 1, none⟩) (v := .int .i64 o[k].start) (by go_simp); have b2 := hC.k (p := ⟨wr.heap.size, 2, none⟩) (v := .bool o[k].back) (by go_simp)); go_wp2_with fail; exact hK'.out _ hC)); go_simp; refine hK _ ?_; clear hK K)
          (refine fix_b (fun K hK => ?_); apply Exists.intro; refine ⟨fun wx hC K' hK' => ?_, ?_⟩; (focus (replace hK' := hide hK'; skip; go_wp2_with fail; (refine (visitFaultRefN_any _ _ l _ _ _ (o.take k) htk.out o[k] _ ((hl.pure hg).pure (gr_trans (gr_alloc (World.grownBy.refl _ _) _) hC)) (((ho.pure hg).pure (gr_trans (gr_alloc (World.grownBy.refl _ _) _) hC)).take k)).mono ?_; rintro e w' ⟨rfl, hg'⟩; go_wp2_with fail; exact hK'.out _ (gr_trans hC hg')))); go_simp; refine hK _ ?_; clear hK K)
          (refine fix_b (fun K hK => ?_); apply Exists.intro; refine ⟨fun wx hC K' hK' => ?_, ?_⟩; (focus (replace hK' := hide hK'; skip; go_wp2_with fail; exact hK'.out _ hC)); go_simp; refine hK _ ?_; clear hK K)
          refine fix_nil ?_
          intro wz hC
          have HX : ∀ x, visitF l (o.take k) o[k] = x → (x ≠ 0 → x = orderF l o) ∧ (x = 0 → visitsF l (o.take (k + 1)) (o.drop (k + 1)) = orderF l o) := fun x hx => by
            have h1 := hdr.out
            rw [HS.out, hx] at h1
            exact ⟨fun h => by rw [orS_ne h] at h1; exact h1, fun h => by rw [orS_zero h] at h1; exact h1⟩
          replace HX := hide HX
          generalize hX : visitF l (o.take k) o[k] = X at *
          replace HX := hide (HX.out X rfl)
          by_cases hz : X = 0
          · have hb : (X != 0) = false := by simp [hz]
            have HT := hide (HX.out.2 hz)
            clear hz hX
            go_wp2_with fail
            (go_roundw; (case rel => exact ⟨k + 1, by omega, by go_num, (by repeat (first | exact World.grownBy.refl _ _ | assumption | refine gr_alloc ?_ _ | (apply gr_tail; assumption) | refine gr_drewN ?_ _ | refine gr_drew ?_)), HT⟩); (case measure => simp [intOf]; omega))
          · have hb : (X != 0) = true := by simp [hz]
            have HT := hide (HX.out.1 hz)
            clear hz hX
            go_wp2_with fail
            go_ret
            exact ⟨ret_int HT.out, (by repeat (first | exact World.grownBy.refl _ _ | assumption | refine gr_alloc ?_ _ | (apply gr_tail; assumption) | refine gr_drewN ?_ _ | refine gr_drew ?_))⟩
        · have HB : Hid (0 = orderF l o) := by rw [Hid, ← hdr.out, List.drop_of_length_le (by omega)]; rfl
          go_wp2
          go_ret
          exact ⟨ret_int HB.out, hg⟩
    · have HO := hide (orderF_len hp hol)
      have hnl : ((o.length : Int) != l.length) = true := by simp; omega
      have hnl2 : (o.length != l.length) = true := by simp [hol]
      clear hp hol
      go_enter Tryz.func15, Tryz.ntmps15
      go_wp2_with fail
      refine (pathsFaultRef_any _ _ l _ hl).mono ?_
      rintro e w1 ⟨rfl, hg1⟩
      go_wp2_with fail
      go_ret
      exact ⟨ret_int HO.out.symm, (by repeat (first | exact World.grownBy.refl _ _ | assumption | refine gr_alloc ?_ _ | (apply gr_tail; assumption) | refine gr_drewN ?_ _ | refine gr_drew ?_))⟩
  · have HO := hide (orderF_bad (o := o) hp)
    have hb : (pathsF l != 0) = true := by simp [hp]
    clear hp
    go_enter Tryz.func15, Tryz.ntmps15
    go_wp2_with fail
    refine (pathsFaultRef_any _ _ l _ hl).mono ?_
    rintro e w1 ⟨rfl, hg1⟩
    go_wp2_with fail
    go_ret
    exact ⟨ret_int HO.out.symm, (by repeat (first | exact World.grownBy.refl _ _ | assumption | refine gr_alloc ?_ _ | (apply gr_tail; assumption) | refine gr_drewN ?_ _ | refine gr_drew ?_))⟩

end Go.Proofs.YtmhnjpcjagbdhaaGreat
