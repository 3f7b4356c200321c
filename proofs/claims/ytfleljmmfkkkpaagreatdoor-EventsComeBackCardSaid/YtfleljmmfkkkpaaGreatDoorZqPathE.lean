/- Contracts of functions that this seat's laws reach, each: what one call returns and what it leaves in memory; no condition beyond each theorem's own hypotheses. -/
import Derived.Test.YtfleljmmfkkkpaaGreatDoorZqPathA
import Derived.Test.YtfleljmmfkkkpaaGreatDoorZqHead
import Derived.Test.YtfleljmmfkkkpaaGreatDoorZqFlowD
set_option linter.unusedVariables false
set_option linter.unusedSimpArgs false
namespace Go.Proofs.YtfleljmmfkkkpaaGreatDoor
open Go.RowKit Go.Bl

def pointsF (l : List Pt) : Int := if l.any farP then 1 else 0

theorem pointsF_no {l : List Pt} (h : l.any farP = false) : pointsF l = 0 := by simp [pointsF, h]

theorem pointsF_yes {l : List Pt} (h : l.any farP = true) : pointsF l = 1 := by simp [pointsF, h]

theorem any_snoc {l : List Pt} {k : Nat} (h : k < l.length) : (l.take (k + 1)).any farP = ((l.take k).any farP || farP l[k]) := by rw [take_snoc h, List.any_append]; simp

theorem any_at {l : List Pt} {k : Nat} (h : k < l.length) (hf : farP l[k] = true) : l.any farP = true := List.any_eq_true.2 ⟨_, List.getElem_mem _, hf⟩

set_option maxHeartbeats 400000 in
theorem isFar_any (p : Pt) (w : World) :
    Calls Tryz.prog 106 #[.agg #[.int .i64 p.x, .int .i64 p.y]] w fun e w' => e = .returned (.bool (farP p)) ∧ w.grownBy w' none := by
  go_enter Tryz.func106, Tryz.ntmps106
  go_wp2_with (go_at_call 63; refine (outside_any _ _ _ _).mono ?_; rintro e w' ⟨rfl, rfl⟩)
  all_goals (go_ret; exact ⟨ret_bool (by simp [farP, *]), (by repeat (first | exact World.grownBy.refl _ _ | assumption | refine gr_alloc ?_ _ | refine gr_drewN ?_ _ | refine gr_drew ?_))⟩)

end Go.Proofs.YtfleljmmfkkkpaaGreatDoor

namespace Go.Proofs.YtfleljmmfkkkpaaGreatDoor
open Go.RowKit Go.Bl

theorem form_guard (cl back : Bool) (start : Int) : (cl && back || !cl && start != 0) = true ∨ (cl && back || !cl && start != 0) = false := by cases (cl && back || !cl && start != 0) <;> simp

end Go.Proofs.YtfleljmmfkkkpaaGreatDoor

namespace Go.Proofs.YtfleljmmfkkkpaaGreatDoor
open Go.RowKit Go.Bl

theorem visitF_out {l : List PathV} {b : List Vis} {v : Vis} (h : ¬ (0 ≤ v.path ∧ v.path < l.length)) : visitF l b v = 1 := by
  unfold visitF
  rw [if_pos (by unfold inB; simp; omega)]

theorem visitF_seen {l : List PathV} {b : List Vis} {v : Vis} (h : 0 ≤ v.path ∧ v.path < l.length) (hs : hasP b v.path = true) : visitF l b v = 6 := by
  unfold visitF
  rw [if_neg (by unfold inB; simp; omega), if_pos hs]

theorem visitF_new {l : List PathV} {b : List Vis} {v : Vis} (h : 0 ≤ v.path ∧ v.path < l.length) (hs : hasP b v.path = false) : visitF l b v = formF (l.getD v.path.toNat default) v := by
  unfold visitF
  rw [if_neg (by unfold inB; simp; omega), if_neg (by simp [hs])]

theorem orderF_len {l : List PathV} {o : List Vis} (h : pathsF l = 0) (hl : o.length ≠ l.length) : orderF l o = 3 := by
  unfold orderF; rw [orS_zero h, if_pos hl]

theorem orderF_ok {l : List PathV} {o : List Vis} (h : pathsF l = 0) (hl : o.length = l.length) : orderF l o = visitsF l [] o := by
  unfold orderF; rw [orS_zero h, if_neg (by simp [hl])]

theorem orderF_bad {l : List PathV} {o : List Vis} (h : pathsF l ≠ 0) : orderF l o = pathsF l := by
  unfold orderF; rw [orS_ne h]

end Go.Proofs.YtfleljmmfkkkpaaGreatDoor
