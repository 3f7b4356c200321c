/- Contracts of functions that this seat's laws reach, each: what one call returns and what it leaves in memory; no condition beyond each theorem's own hypotheses. -/
import Derived.Test.YtlfobddinilmcaaDoorFarmG
set_option linter.unusedVariables false
set_option linter.unusedSimpArgs false
namespace Go.Proofs.YtlfobddinilmcaaDoor
open Go.RowKit Go.Bl

def plannedF (p : List Prn) (j : List Jb) (plan : List (List Int)) (ch : Int) : Int := if planF p j plan = 0 then spanF ch 0 100000 else planF p j plan

theorem spanF_outB (n a b : Int) : spanF n a b = if outB n a b then 1 else 0 := by
  rcases h : outB n a b with _ | _
  · rw [spanF_in (by rw [in_out, h]; rfl)]; rfl
  · rw [spanF_out (by rw [in_out, h]; rfl)]; rfl

set_option maxHeartbeats 1000000 in
theorem planned_any (A : Option Addr) (c : Nat) (p : List Prn) (B : Option Addr) (d : Nat) (j : List Jb) (C : Option Addr) (e0 : Nat) (plan : List (List Int)) (ch : Int) (w : World) (hp : Sl w 0 A p) (hj : Sl w 0 B j) (hpl : Sl w 0 C plan) :
    Calls Tryd.prog 51 #[.slice A p.length c, .slice B j.length d, .slice C plan.length e0, .int .i64 ch] w fun e w' => e = .returned (.int .i64 (plannedF p j plan ch)) ∧ w.grownBy w' none := by
  have hV : Hid (plannedF p j plan ch = if planF p j plan = 0 then spanF ch 0 100000 else planF p j plan) := rfl
  go_enter Tryd.func51, Tryd.ntmps51
  go_wp2_with fail
  refine (checkPlan_any _ _ _ _ _ _ _ _ _ _ hp hj hpl).mono ?_
  rintro e w1 ⟨rfl, hg1⟩
  by_cases h0 : planF p j plan = 0
  · have hb : (planF p j plan != 0) = false := by simp [h0]
    rw [if_pos h0, spanF_outB] at hV
    replace h0 := hide h0
    rcases h1 : outB ch 0 100000 with _ | _
    · rw [h1] at hV
      go_wp2_with (go_at_call 55; refine (isChange_any _ _).mono ?_; rintro _ _ ⟨rfl, rfl⟩; rw [h1])
      go_ret
      exact ⟨ret_int hV.out.symm, hg1⟩
    · rw [h1] at hV
      go_wp2_with (go_at_call 55; refine (isChange_any _ _).mono ?_; rintro _ _ ⟨rfl, rfl⟩; rw [h1])
      go_ret
      exact ⟨ret_int hV.out.symm, hg1⟩
  · have hb : (planF p j plan != 0) = true := by simp [h0]
    rw [if_neg h0] at hV
    clear h0
    go_wp2_with fail
    go_ret
    exact ⟨ret_int hV.out.symm, hg1⟩
end Go.Proofs.YtlfobddinilmcaaDoor
