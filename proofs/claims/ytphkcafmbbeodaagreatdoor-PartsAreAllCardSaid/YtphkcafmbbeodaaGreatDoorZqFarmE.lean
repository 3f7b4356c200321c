/- Contracts of functions that this seat's laws reach, each: what one call returns and what it leaves in memory; no condition beyond each theorem's own hypotheses. -/
import Derived.Test.YtphkcafmbbeodaaGreatDoorZqFarmD
import Derived.Test.YtphkcafmbbeodaaGreatDoorZqFlowB
set_option linter.unusedVariables false
set_option linter.unusedSimpArgs false
namespace Go.Proofs.YtphkcafmbbeodaaGreatDoor
open Go.RowKit Go.Bl

set_option maxHeartbeats 800000 in
theorem fault_any (A : Option Addr) (c : Nat) (p : List Prn) (B : Option Addr) (d : Nat) (j : List Jb) (w : World) (hp : Sl w 0 A p) (hj : Sl w 0 B j) :
    Calls Tryz.prog 142 #[.slice A p.length c, .slice B j.length d] w fun e w' => e = .returned (.int .i64 (farmF p j)) ∧ w.grownBy w' none := by
  have hV : Hid (farmF p j = if prnsF p = 0 then jbsF j else prnsF p) := rfl
  go_enter Tryz.func142, Tryz.ntmps142
  go_wp2_with fail
  refine (checkPrinters_any _ _ _ _ hp).mono ?_
  rintro e w1 ⟨rfl, hg1⟩
  by_cases h0 : prnsF p = 0
  · have hb : (prnsF p != 0) = false := by simp [h0]
    replace h0 := hide h0
    go_wp2_with fail
    refine (checkJobs_any _ _ _ _ (hj.pure hg1)).mono ?_
    rintro e w2 ⟨rfl, hg2⟩
    go_wp2_with fail
    go_ret
    exact ⟨ret_int (by rw [hV.out, if_pos h0.out]), hg1.t hg2⟩
  · have hb : (prnsF p != 0) = true := by simp [h0]
    replace h0 := hide h0
    go_wp2_with fail
    go_ret
    exact ⟨ret_int (by rw [hV.out, if_neg h0.out]), hg1⟩

set_option maxHeartbeats 400000 in
theorem isChange_any (n : Int) (w : World) :
    Calls Tryz.prog 115 #[.int .i64 n] w fun e w' => e = .returned (.bool (!outB n 0 100000)) ∧ w = w' := by
  go_enter Tryz.func115, Tryz.ntmps115
  go_wp2_with (go_at_call 53; refine (outside_any _ _ _ _).mono ?_; rintro _ _ ⟨rfl, rfl⟩)
  go_ret
  exact ⟨rfl, rfl⟩

end Go.Proofs.YtphkcafmbbeodaaGreatDoor
