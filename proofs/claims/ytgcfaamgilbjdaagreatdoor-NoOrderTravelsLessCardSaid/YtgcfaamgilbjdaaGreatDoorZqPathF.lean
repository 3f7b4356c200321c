/- Contracts of functions that this seat's laws reach, each: what one call returns and what it leaves in memory; no condition beyond each theorem's own hypotheses. -/
import Derived.Test.YtgcfaamgilbjdaaGreatDoorZqPathE
import Derived.Test.YtgcfaamgilbjdaaGreatDoorZqBitRun
set_option linter.unusedVariables false
set_option linter.unusedSimpArgs false
namespace Go.Proofs.YtgcfaamgilbjdaaGreatDoor
open Go.RowKit Go.Bl

set_option maxHeartbeats 400000 in
theorem absP_any (n : Int) (w : World) (h : -9000000000000000000 ≤ n ∧ n ≤ 9000000000000000000) : Calls Tryz.prog 39 #[.int .i64 n] w fun e w' => e = .returned (.int .i64 (max n (-n))) ∧ w = w' := by
  go_enter Tryz.func39, Tryz.ntmps39
  go_wp2
  all_goals (go_ret; exact ⟨ret_int (by omega), rfl⟩)

def dist (a b : Pt) : Int := max (max (a.x - b.x) (-(a.x - b.x))) (max (a.y - b.y) (-(a.y - b.y)))

theorem dist_eq (a b : Pt) : dist a b = distP a b := by unfold dist distP; omega

def near (p : Pt) : Prop := (-100000 ≤ p.x ∧ p.x ≤ 100000) ∧ (-100000 ≤ p.y ∧ p.y ≤ 100000)

theorem near_of {p : Pt} (h : farP p = false) : near p := by
  unfold farP at h
  rw [Bool.or_eq_false_iff] at h
  exact ⟨outB_false h.1, outB_false h.2⟩

theorem distP_bd {a b : Pt} (ha : near a) (hb : near b) : 0 ≤ distP a b ∧ distP a b ≤ 200000 := by unfold near at ha hb; unfold distP; omega

set_option maxHeartbeats 800000 in
theorem distance_any (a b : Pt) (w : World) (ha : near a) (hb : near b) : Calls Tryz.prog 21 #[.agg #[.int .i64 a.x, .int .i64 a.y], .agg #[.int .i64 b.x, .int .i64 b.y]] w fun e w' => e = .returned (.int .i64 (distP a b)) ∧ w.grownBy w' none := by
  obtain ⟨⟨ha1, ha2⟩, ⟨ha3, ha4⟩⟩ := ha
  obtain ⟨⟨hb1, hb2⟩, ⟨hb3, hb4⟩⟩ := hb
  have HD := hide (dist_eq a b)
  have hx : wrap64 (a.x - b.x) = a.x - b.x := i64_in (by omega)
  have hy : wrap64 (a.y - b.y) = a.y - b.y := i64_in (by omega)
  go_enter Tryz.func21, Tryz.ntmps21
  go_wp2_with fail
  go_quiet ((go_at_call 39; exact Calls.quiet_of_same (((absP_any _ _ (by omega)).mono fun e w' h => ⟨h.1, h.2.symm⟩))))
  go_wp2_with fail
  all_goals (go_ret; exact ⟨ret_int (by rw [← HD.out]; unfold dist; omega), (by repeat (first | exact World.grownBy.refl _ _ | assumption | refine gr_alloc ?_ _ | (apply gr_tail; assumption) | refine gr_drewN ?_ _ | refine gr_drew ?_))⟩)

end Go.Proofs.YtgcfaamgilbjdaaGreatDoor
