/- Contracts of functions that this seat's laws reach, each: what one call returns and what it leaves in memory; no condition beyond each theorem's own hypotheses. -/
import Derived.Test.YtanioobepfllgaaGreatDoorZqFarmD
import Derived.Test.YtanioobepfllgaaGreatDoorZqFlowB
set_option linter.unusedVariables false
set_option linter.unusedSimpArgs false
namespace Go.Proofs.YtanioobepfllgaaGreatDoor
open Go.RowKit Go.Bl

theorem or2 (a b : Int) : orL [a, b] = if a = 0 then b else a := by
  by_cases h : a = 0 <;> by_cases h2 : b = 0 <;> simp [orL, h, h2]

set_option maxHeartbeats 800000 in
theorem fault_any (A : Option Addr) (c : Nat) (p : List Prn) (B : Option Addr) (d : Nat) (j : List Jb) (w : World) (hp : Sl w 0 A p) (hj : Sl w 0 B j) :
    Calls Tryz.prog 36 #[.slice A p.length c, .slice B j.length d] w fun e w' => e = .returned (.int .i64 (farmF p j)) ∧ w.grownBy w' none := by
  have hV : Hid (farmF p j = if prnsF p = 0 then jbsF j else prnsF p) := rfl
  go_enter Tryz.func36, Tryz.ntmps36
  go_wp2_with fail
  refine (checkPrinters_any _ _ _ _ hp).mono ?_
  rintro e w1 ⟨rfl, hg1⟩
  by_cases h0 : prnsF p = 0
  · have hb : (prnsF p != 0) = false := by simp [h0]
    replace h0 := hide h0
    go_wp2_with fail
    refine (checkJobs_any _ _ _ _ (hj.pure hg1)).mono ?_
    rintro e w2 ⟨rfl, hg2⟩
    go_wp2_with fail
    go_ret
    exact ⟨ret_int (by rw [hV.out, if_pos h0.out]), hg1.t hg2⟩
  · have hb : (prnsF p != 0) = true := by simp [h0]
    replace h0 := hide h0
    go_wp2_with fail
    go_ret
    exact ⟨ret_int (by rw [hV.out, if_neg h0.out]), hg1⟩

set_option maxHeartbeats 800000 in
theorem farmFault_any (A : Option Addr) (c : Nat) (p : List Prn) (B : Option Addr) (d : Nat) (j : List Jb) (w : World) (hp : Sl w 0 A p) (hj : Sl w 0 B j) :
    Calls Tryz.prog 43 #[.slice A p.length c, .slice B j.length d] w fun e w' => e = .returned (.int .i64 (farmF p j)) ∧ w.grownBy w' none := by
  have hV : Hid (orL [prnsF p, jbsF j] = farmF p j) := or2 _ _
  go_enter Tryz.func43, Tryz.ntmps43
  go_wp2_with fail
  refine (printersFault_any _ _ _ _ hp).mono ?_
  rintro e w1 ⟨rfl, hg1⟩
  go_wp2_with fail
  refine (jobsFault_any _ _ _ _ (hj.pure hg1)).mono ?_
  rintro e w2 ⟨rfl, hg2⟩
  go_wp2_with fail
  refine (or_any _ _ _ [prnsF p, jbsF j] _ (sl_intsAt _ 0 _ [prnsF p, jbsF j] _ (by first | rfl | simp) (Nat.zero_le _) (by simp [maxLen])) rfl).mono ?_
  rintro e w3 ⟨rfl, rfl⟩
  go_wp2_with fail
  go_ret
  exact ⟨ret_int hV.out, (by repeat (first | exact World.grownBy.refl _ _ | assumption | refine gr_alloc ?_ _ | (apply gr_tail; assumption) | refine gr_drewN ?_ _ | refine gr_drew ?_))⟩

set_option maxHeartbeats 400000 in
theorem noneFault_any (b : Bool) (w : World) :
    Calls Tryz.prog 47 #[.bool b] w fun e w' => e = .returned (.int .i64 (if b then 8 else 0)) ∧ w = w' := by
  cases b <;> (go_enter Tryz.func47, Tryz.ntmps47; go_wp2; go_ret; exact ⟨rfl, rfl⟩)

set_option maxHeartbeats 400000 in
theorem isChange_any (n : Int) (w : World) :
    Calls Tryz.prog 37 #[.int .i64 n] w fun e w' => e = .returned (.bool (!outB n 0 100000)) ∧ w = w' := by
  go_enter Tryz.func37, Tryz.ntmps37
  go_wp2_with (go_at_call 62; refine (outside_any _ _ _ _).mono ?_; rintro _ _ ⟨rfl, rfl⟩)
  go_ret
  exact ⟨rfl, rfl⟩

end Go.Proofs.YtanioobepfllgaaGreatDoor
