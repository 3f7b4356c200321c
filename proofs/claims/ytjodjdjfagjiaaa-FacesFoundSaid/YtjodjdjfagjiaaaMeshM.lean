/- Contracts of functions that this seat's laws reach, each: what one call returns and what it leaves in memory; no condition beyond each theorem's own hypotheses. -/
import Derived.Test.YtjodjdjfagjiaaaMeshL
set_option linter.unusedVariables false
set_option linter.unusedSimpArgs false
namespace Go.Proofs.Ytjodjdjfagjiaaa
open Go.RowKit Go.Bl

def lowB (num den : Int) : Bool := decide (Int.gcd num den = 1)
theorem gcd_tmod (a b : Int) : Int.gcd b (a.tmod b) = Int.gcd a b := by
  unfold Int.gcd
  rw [Int.natAbs_tmod, Nat.gcd_comm a.natAbs b.natAbs, Nat.gcd_comm b.natAbs (a.natAbs % b.natAbs), ← Nat.gcd_rec]
theorem lowB_end {a num den : Int} (h : Int.gcd a 0 = Int.gcd num den) : lowB num den = (a == 1 || a == -1) := by
  unfold lowB
  rw [← h, Int.gcd_zero_right]
  by_cases h1 : a = 1
  · simp [h1]
  · by_cases h2 : a = -1
    · simp [h2]
    · rw [beq_eq_false_iff_ne.2 h1, beq_eq_false_iff_ne.2 h2, decide_eq_false (by omega)]; rfl

set_option maxHeartbeats 1000000 in
theorem isLowest_any (num den : Int) (w : World) (h1 : -9223372036854775808 ≤ num ∧ num ≤ 9223372036854775807) (h2 : -9223372036854775807 ≤ den ∧ den ≤ 9223372036854775807) :
    Calls Try.prog 49 #[.agg #[.int .i64 num, .int .i64 den]] w fun e w' => e = .returned (.bool (lowB num den)) ∧ w.grownBy w' none := by
  have hg0 := gr_alloc (World.grownBy.refl w none) (.cells #[.int .i64 num, .int .i64 den] 32)
  go_enter Try.func49, Try.ntmps49
  go_wp2_with fail
  go_quiet (fail)
  go_wp2_with fail
  go_loopw [3, 4] (fun x y wr => ∃ a b : Int, x = .int .i64 a ∧ y = .int .i64 b ∧ (-9223372036854775808 ≤ a ∧ a ≤ 9223372036854775807) ∧ (-9223372036854775807 ≤ b ∧ b ≤ 9223372036854775807) ∧ Hid (Int.gcd a b = Int.gcd num den) ∧ w.grownBy wr none) (fun _ y _ => (intOf y).natAbs)
  case atStart => exact ⟨num, den, rfl, rfl, h1, h2, rfl, gr_drewN hg0 _⟩
  case round =>
    obtain ⟨a, b, rfl, rfl, ha, hb, hgc, hg⟩ := hrel
    by_cases hz : b = 0
    · subst hz
      have HL := hide (lowB_end hgc.out)
      go_wp2
      all_goals (go_ret; exact ⟨ret_bool (by rw [HL.out]; try simp [*]), hg⟩)
    · have hbb : (b != 0) = true := by simp [hz]
      have hm : (a.tmod b).natAbs < b.natAbs := by rw [Int.natAbs_tmod]; exact Nat.mod_lt _ (by omega)
      have HS : Hid (Int.gcd b (a.tmod b) = Int.gcd num den) := by rw [Hid, gcd_tmod]; exact hgc.out
      go_wp2_with fail
      go_quiet (fail)
      go_wp2_with fail
      go_roundw
      case rel => exact ⟨_, _, rfl, rfl, by omega, by omega, HS, gr_drewN hg _⟩
      case measure => first | exact hm | (simp [intOf]; omega) | (simp [intOf] at hm ⊢; exact hm)

end Go.Proofs.Ytjodjdjfagjiaaa
