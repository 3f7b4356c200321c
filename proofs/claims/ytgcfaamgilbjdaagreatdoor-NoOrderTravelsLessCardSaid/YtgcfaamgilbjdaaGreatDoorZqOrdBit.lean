/- Contracts of functions that this seat's laws reach, each: what one call returns and what it leaves in memory; no condition beyond each theorem's own hypotheses. -/
import Derived.Test.YtgcfaamgilbjdaaGreatDoorZqBitRun
import Derived.Test.YtgcfaamgilbjdaaGreatDoorZqIdxP
set_option linter.unusedVariables false
set_option linter.unusedSimpArgs false
namespace Go.Bl
open Go Go.RowKit

set_option maxRecDepth 20000 in
theorem andNot_nat : ∀ S : Nat, S < 64 → ∀ i : Nat, i < 6 → (BitVec.ofNat 64 S &&& ~~~ BitVec.ofNat 64 (2 ^ i)).toNat = clr S i := by decide

theorem bits_andNotS {S i : Nat} (hS : S < 64) (hi : i < 6) : bits .andNot .i64 (S : Int) ((2 ^ i : Nat) : Int) = ((clr S i : Nat) : Int) := by
  have h1 : bits .andNot .i64 (S : Int) ((2 ^ i : Nat) : Int) = IntKind.i64.wrap ((BitVec.ofNat 64 S &&& ~~~ BitVec.ofNat 64 (2 ^ i)).toNat : Int) := rfl
  have h2 : clr S i ≤ S := by
    unfold clr
    split
    · exact Nat.sub_le _ _
    · exact Nat.le_refl _
  rw [h1, andNot_nat S hS i hi]
  generalize clr S i = q at *
  exact IntWalk.i64_in _ (by omega)

set_option maxRecDepth 20000 in
theorem and1_nat : ∀ u : Nat, u < 64 → (BitVec.ofNat 64 u &&& BitVec.ofNat 64 1).toNat = u % 2 := by decide

theorem bits_and1S {S i : Nat} (hS : S < 64) : bits .and .i64 ((S : Int) / (2 : Int) ^ i) 1 = if S.testBit i then 1 else 0 := by
  have h0 : ((S : Int) / (2 : Int) ^ i) = ((S / 2 ^ i : Nat) : Int) := by push_cast; rfl
  have h2 : S / 2 ^ i < 64 := Nat.lt_of_le_of_lt (Nat.div_le_self _ _) hS
  rw [h0, Nat.testBit_eq_decide_div_mod_eq]
  generalize S / 2 ^ i = u at *
  have h1 : bits .and .i64 (u : Int) 1 = IntKind.i64.wrap ((BitVec.ofNat 64 u &&& BitVec.ofNat 64 1).toNat : Int) := rfl
  rw [h1, and1_nat u h2, IntWalk.i64_in _ (by omega)]
  rcases Nat.mod_two_eq_zero_or_one u with h | h <;> rw [h] <;> rfl

theorem wrap_shl {i : Nat} (hi : i ≤ 6) : wrap64 ((2 : Int) ^ i) = ((2 ^ i : Nat) : Int) := by
  rcases (show i = 0 ∨ i = 1 ∨ i = 2 ∨ i = 3 ∨ i = 4 ∨ i = 5 ∨ i = 6 by omega) with rfl | rfl | rfl | rfl | rfl | rfl | rfl <;> rw [i64_in (by decide)] <;> rfl

end Go.Bl
