/- Contracts of functions that this seat's laws reach, each: what one call returns and what it leaves in memory; no condition beyond each theorem's own hypotheses. -/
import Derived.Test.YtkcchcnljanloaaGreatZqFlowA
import Derived.Test.YtkcchcnljanloaaGreatZqGpLib
set_option linter.unusedVariables false
set_option linter.unusedSimpArgs false
namespace Go.Proofs.YtkcchcnljanloaaGreat
open Go.RowKit Go.Bl

theorem info_v3 : (Tryz.prog.info? 38).map (fun i => (i.zero, i.size, i.bytes)) = some (some (.agg #[.int .i64 0, .int .i64 0, .int .i64 0]), 3, 24) := by kernel_rfl

theorem info_face : (Tryz.prog.info? 58).map (fun i => (i.zero, i.size, i.bytes)) = some (some (.agg #[.int .i64 0, .int .i64 0, .int .i64 0]), 3, 24) := by kernel_rfl

theorem info_side : (Tryz.prog.info? 63).map (fun i => (i.zero, i.size, i.bytes)) = some (some (.agg #[.int .i64 0, .int .i64 0]), 2, 16) := by kernel_rfl

theorem isFarM_any (n : Int) (w : World) : Calls Tryz.prog 60 #[.int .i64 n] w fun e w' => e = .returned (.bool (farZ n)) ∧ w = w' := by
  go_enter Tryz.func60, Tryz.ntmps60
  go_wp2_with fail
  refine (outside_any _ _ _ _).mono ?_
  rintro e w1 ⟨rfl, rfl⟩
  go_wp2_with fail
  go_ret
  exact ⟨ret_bool (by unfold farZ; congr 1), rfl⟩

set_option maxHeartbeats 800000 in
theorem minus_any (a b : V3) (w : World) (ha : Bd 1000000000000 a) (hb : Bd 1000000000000 b) :
    Calls Tryz.prog 53 #[.agg #[.int .i64 a.x, .int .i64 a.y, .int .i64 a.z], .agg #[.int .i64 b.x, .int .i64 b.y, .int .i64 b.z]] w fun e w' => e = .returned (.agg #[.int .i64 (lessV a b).x, .int .i64 (lessV a b).y, .int .i64 (lessV a b).z]) ∧ w.grownBy w' none := by
  obtain ⟨⟨a1, a2⟩, ⟨a3, a4⟩, a5, a6⟩ := ha
  obtain ⟨⟨b1, b2⟩, ⟨b3, b4⟩, b5, b6⟩ := hb
  go_enter Tryz.func53, Tryz.ntmps53
  go_wp2_with fail
  refine bodyPost_ret (v := .agg #[.int .i64 (a.x - b.x), .int .i64 (a.y - b.y), .int .i64 (a.z - b.z)]) (by simp [results, Tryz.results53, go_sem]) rfl ⟨rfl, (by repeat (first | exact World.grownBy.refl _ _ | assumption | refine gr_alloc ?_ _ | (apply gr_tail; assumption) | refine gr_drewN ?_ _ | refine gr_drew ?_))⟩

set_option maxHeartbeats 800000 in
theorem less_any (a b : V3) (w : World) (ha : Bd 1000000000000 a) (hb : Bd 1000000000000 b) :
    Calls Tryz.prog 66 #[.agg #[.int .i64 a.x, .int .i64 a.y, .int .i64 a.z], .agg #[.int .i64 b.x, .int .i64 b.y, .int .i64 b.z]] w fun e w' => e = .returned (.agg #[.int .i64 (lessV a b).x, .int .i64 (lessV a b).y, .int .i64 (lessV a b).z]) ∧ w.grownBy w' none := by
  obtain ⟨⟨a1, a2⟩, ⟨a3, a4⟩, a5, a6⟩ := ha
  obtain ⟨⟨b1, b2⟩, ⟨b3, b4⟩, b5, b6⟩ := hb
  go_enter Tryz.func66, Tryz.ntmps66
  go_wp2_with fail
  refine bodyPost_ret (v := .agg #[.int .i64 (a.x - b.x), .int .i64 (a.y - b.y), .int .i64 (a.z - b.z)]) (by simp [results, Tryz.results66, go_sem]) rfl ⟨rfl, (by repeat (first | exact World.grownBy.refl _ _ | assumption | refine gr_alloc ?_ _ | (apply gr_tail; assumption) | refine gr_drewN ?_ _ | refine gr_drew ?_))⟩

set_option maxHeartbeats 1600000 in
theorem crossRef_any (a b : V3) (w : World) (ha : Bd 1000000000 a) (hb : Bd 1000000000 b) :
    Calls Tryz.prog 52 #[.agg #[.int .i64 a.x, .int .i64 a.y, .int .i64 a.z], .agg #[.int .i64 b.x, .int .i64 b.y, .int .i64 b.z]] w fun e w' => e = .returned (.agg #[.int .i64 (crossV a b).x, .int .i64 (crossV a b).y, .int .i64 (crossV a b).z]) ∧ w.grownBy w' none := by
  have h1 := mul_bd3 ha.1 hb.2.1
  have h2 := mul_bd3 ha.1 hb.2.2
  have h3 := mul_bd3 ha.2.1 hb.1
  have h4 := mul_bd3 ha.2.1 hb.2.2
  have h5 := mul_bd3 ha.2.2 hb.1
  have h6 := mul_bd3 ha.2.2 hb.2.1
  simp only [Int.reduceMul, Int.reduceNeg] at h1 h2 h3 h4 h5 h6
  clear ha hb
  go_enter Tryz.func52, Tryz.ntmps52
  go_wp2_with fail
  refine bodyPost_ret (v := .agg #[.int .i64 (crossV a b).x, .int .i64 (crossV a b).y, .int .i64 (crossV a b).z]) (by simp [results, Tryz.results52, go_sem, crossV]) rfl ⟨rfl, (by repeat (first | exact World.grownBy.refl _ _ | assumption | refine gr_alloc ?_ _ | (apply gr_tail; assumption) | refine gr_drewN ?_ _ | refine gr_drew ?_))⟩

set_option maxHeartbeats 1600000 in
theorem cross_any (a b : V3) (w : World) (ha : Bd 1000000000 a) (hb : Bd 1000000000 b) :
    Calls Tryz.prog 65 #[.agg #[.int .i64 a.x, .int .i64 a.y, .int .i64 a.z], .agg #[.int .i64 b.x, .int .i64 b.y, .int .i64 b.z]] w fun e w' => e = .returned (.agg #[.int .i64 (crossV a b).x, .int .i64 (crossV a b).y, .int .i64 (crossV a b).z]) ∧ w.grownBy w' none := by
  have h1 := mul_bd3 ha.1 hb.2.1
  have h2 := mul_bd3 ha.1 hb.2.2
  have h3 := mul_bd3 ha.2.1 hb.1
  have h4 := mul_bd3 ha.2.1 hb.2.2
  have h5 := mul_bd3 ha.2.2 hb.1
  have h6 := mul_bd3 ha.2.2 hb.2.1
  simp only [Int.reduceMul, Int.reduceNeg] at h1 h2 h3 h4 h5 h6
  clear ha hb
  go_enter Tryz.func65, Tryz.ntmps65
  go_wp2_with fail
  refine bodyPost_ret (v := .agg #[.int .i64 (crossV a b).x, .int .i64 (crossV a b).y, .int .i64 (crossV a b).z]) (by simp [results, Tryz.results65, go_sem, crossV]) rfl ⟨rfl, (by repeat (first | exact World.grownBy.refl _ _ | assumption | refine gr_alloc ?_ _ | (apply gr_tail; assumption) | refine gr_drewN ?_ _ | refine gr_drew ?_))⟩

set_option maxHeartbeats 1600000 in
theorem dot_any (a b : V3) (w : World) (ha : Bd 100000 a) (hb : Bd 10000000000000 b) :
    Calls Tryz.prog 67 #[.agg #[.int .i64 a.x, .int .i64 a.y, .int .i64 a.z], .agg #[.int .i64 b.x, .int .i64 b.y, .int .i64 b.z]] w fun e w' => e = .returned (.int .i64 (dotV a b)) ∧ w.grownBy w' none := by
  have h1 := mul_bd4 ha.1 hb.1
  have h2 := mul_bd4 ha.2.1 hb.2.1
  have h3 := mul_bd4 ha.2.2 hb.2.2
  simp only [Int.reduceMul, Int.reduceNeg] at h1 h2 h3
  clear ha hb
  go_enter Tryz.func67, Tryz.ntmps67
  go_wp2_with fail
  go_ret
  exact ⟨ret_int rfl, (by repeat (first | exact World.grownBy.refl _ _ | assumption | refine gr_alloc ?_ _ | (apply gr_tail; assumption) | refine gr_drewN ?_ _ | refine gr_drew ?_))⟩

end Go.Proofs.YtkcchcnljanloaaGreat
