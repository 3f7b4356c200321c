/- Contracts of functions that this seat's laws reach, each: what one call returns and what it leaves in memory; no condition beyond each theorem's own hypotheses. -/
import Derived.Test.YtjodjdjfagjiaaaMeshM
set_option linter.unusedVariables false
set_option linter.unusedSimpArgs false
namespace Go.Proofs.Ytjodjdjfagjiaaa
open Go.RowKit Go.Bl

def slopeF (num den n d : Int) : Int := if den < 1 ∨ lowB num den = false then 3 else if inB num 0 n = true ∧ den ≤ d then 0 else 1
theorem lowB_end2 {a num den : Int} (h : Int.gcd a 0 = Int.gcd num den) (ha : 0 ≤ a) : lowB num den = (a == 1) := by
  rw [lowB_end h, show (a == -1) = false from beq_eq_false_iff_ne.2 (by omega), Bool.or_false]

theorem wrapU_bd (n : Int) : 0 ≤ IntKind.u64.wrap n ∧ IntKind.u64.wrap n ≤ 18446744073709551615 := by rw [IntKind.wrap_u64]; omega
theorem slope_start {num den : Int} (h1 : -9223372036854775808 ≤ num ∧ num ≤ 9223372036854775807) (h2 : -9223372036854775808 ≤ den ∧ den ≤ 9223372036854775807) :
    (num < 0 → Hid (1 ≤ den → (IntKind.u64.wrap (-IntKind.u64.wrap num)).gcd (IntKind.u64.wrap den) = num.gcd den)) ∧ (¬ num < 0 → Hid (1 ≤ den → num.gcd (IntKind.u64.wrap den) = num.gcd den)) := by
  refine ⟨fun h hd => ?_, fun h hd => ?_⟩
  · rw [show IntKind.u64.wrap (-IntKind.u64.wrap num) = -num by rw [IntKind.wrap_u64, IntKind.wrap_u64]; omega, show IntKind.u64.wrap den = den by rw [IntKind.wrap_u64]; omega, Int.neg_gcd]
  · rw [show IntKind.u64.wrap den = den by rw [IntKind.wrap_u64]; omega]

theorem slope_end {a num den n d : Int} (h : 1 ≤ den → lowB num den = (a == 1)) : slopeF num den n d = if den < 1 ∨ (a != 1) = true then 3 else if inB num 0 n = true ∧ den ≤ d then 0 else 1 := by
  unfold slopeF
  by_cases hd : den < 1
  · rw [if_pos (.inl hd), if_pos (.inl hd)]
  · rw [h (by omega)]; simp [hd]

set_option maxHeartbeats 1000000 in
theorem slopeFault_any (num den n d : Int) (w : World) (h1 : -9223372036854775808 ≤ num ∧ num ≤ 9223372036854775807) (h2 : -9223372036854775808 ≤ den ∧ den ≤ 9223372036854775807) :
    Calls Try.prog 55 #[.agg #[.int .i64 num, .int .i64 den], .int .i64 n, .int .i64 d] w fun e w' => e = .returned (.int .i64 (slopeF num den n d)) ∧ w.grownBy w' none := by
  have hg0 := gr_alloc (World.grownBy.refl w none) (.cells #[.int .i64 num, .int .i64 den] 32)
  have hs1 := fun h => hide ((slope_start h1 h2).1 h)
  have hs2 := fun h => hide ((slope_start h1 h2).2 h)
  by_cases hneg : num < 0
  · have hst := hs1 hneg
    clear hs1 hs2
    go_enter Try.func55, Try.ntmps55
    go_wp2_with fail
    go_quiet (fail)
    go_wp2_with fail
    go_loopw [7, 8] (fun x y wr => ∃ a b : Int, x = .int .u64 a ∧ y = .int .u64 b ∧ (0 ≤ a ∧ a ≤ 18446744073709551615) ∧ (0 ≤ b ∧ b ≤ 18446744073709551615) ∧ Hid (1 ≤ den → Int.gcd a b = Int.gcd num den) ∧ w.grownBy wr none ∧ (wr.cell? ⟨w.heap.size, 0, none⟩ = some (.int .i64 num) ∧ wr.cell? ⟨w.heap.size, 1, none⟩ = some (.int .i64 den))) (fun _ y _ => (intOf y).natAbs)
    case atStart => exact ⟨_, _, rfl, rfl, by first | exact wrapU_bd _ | (constructor <;> omega), wrapU_bd _, hst, gr_drewN hg0 _, by go_simp, by go_simp⟩
    case round =>
      obtain ⟨a, b, rfl, rfl, ha, hb, hgc, hg, d0, d1⟩ := hrel
      by_cases hz : b = 0
      · subst hz
        have HL : Hid (1 ≤ den → lowB num den = (a == 1)) := fun h => lowB_end2 (hgc.out h) ha.1
        have HE := hide (slope_end (n := n) (d := d) HL.out)
        go_wp2_with (refine (in_any _ _ _ _).mono ?_; rintro e w1 ⟨rfl, rfl⟩)
        all_goals (go_ret; exact ⟨ret_int (by rw [HE.out]; clear HE HL hgc; first | (simp [*]; done) | (rw [if_pos (by assumption)]) | (rw [if_neg (by simp [*])]; simp [*]) | (rw [if_neg (by simp [*]; omega)]; simp [*])), hg⟩)
      · have HS : Hid (1 ≤ den → Int.gcd b (a % b) = Int.gcd num den) := fun h => by rw [← Int.tmod_eq_emod_of_nonneg ha.1, gcd_tmod]; exact hgc.out h
        have hr1 := Int.emod_nonneg a hz
        have hr2 := Int.emod_lt_of_pos a (show 0 < b by omega)
        replace hr1 := hide hr1
        replace hr2 := hide hr2
        go_wp2_with fail
        go_quiet (fail)
        go_wp2_with fail
        go_roundw
        case rel => exact ⟨_, _, rfl, rfl, hb, ⟨hr1.out, by have := hr2.out; omega⟩, HS, gr_drewN hg _, by go_simp, by go_simp⟩
        case measure => have h1 := hr1.out; have h2 := hr2.out; simp only [intOf]; omega
  · have hst := hs2 hneg
    clear hs1 hs2
    go_enter Try.func55, Try.ntmps55
    go_wp2_with fail
    go_quiet (fail)
    go_wp2_with fail
    go_loopw [7, 8] (fun x y wr => ∃ a b : Int, x = .int .u64 a ∧ y = .int .u64 b ∧ (0 ≤ a ∧ a ≤ 18446744073709551615) ∧ (0 ≤ b ∧ b ≤ 18446744073709551615) ∧ Hid (1 ≤ den → Int.gcd a b = Int.gcd num den) ∧ w.grownBy wr none ∧ (wr.cell? ⟨w.heap.size, 0, none⟩ = some (.int .i64 num) ∧ wr.cell? ⟨w.heap.size, 1, none⟩ = some (.int .i64 den))) (fun _ y _ => (intOf y).natAbs)
    case atStart => exact ⟨_, _, rfl, rfl, by first | exact wrapU_bd _ | (constructor <;> omega), wrapU_bd _, hst, gr_drewN hg0 _, by go_simp, by go_simp⟩
    case round =>
      obtain ⟨a, b, rfl, rfl, ha, hb, hgc, hg, d0, d1⟩ := hrel
      by_cases hz : b = 0
      · subst hz
        have HL : Hid (1 ≤ den → lowB num den = (a == 1)) := fun h => lowB_end2 (hgc.out h) ha.1
        have HE := hide (slope_end (n := n) (d := d) HL.out)
        go_wp2_with (refine (in_any _ _ _ _).mono ?_; rintro e w1 ⟨rfl, rfl⟩)
        all_goals (go_ret; exact ⟨ret_int (by rw [HE.out]; clear HE HL hgc; first | (simp [*]; done) | (rw [if_pos (by assumption)]) | (rw [if_neg (by simp [*])]; simp [*]) | (rw [if_neg (by simp [*]; omega)]; simp [*])), hg⟩)
      · have HS : Hid (1 ≤ den → Int.gcd b (a % b) = Int.gcd num den) := fun h => by rw [← Int.tmod_eq_emod_of_nonneg ha.1, gcd_tmod]; exact hgc.out h
        have hr1 := Int.emod_nonneg a hz
        have hr2 := Int.emod_lt_of_pos a (show 0 < b by omega)
        replace hr1 := hide hr1
        replace hr2 := hide hr2
        go_wp2_with fail
        go_quiet (fail)
        go_wp2_with fail
        go_roundw
        case rel => exact ⟨_, _, rfl, rfl, hb, ⟨hr1.out, by have := hr2.out; omega⟩, HS, gr_drewN hg _, by go_simp, by go_simp⟩
        case measure => have h1 := hr1.out; have h2 := hr2.out; simp only [intOf]; omega

theorem slopeRef_any (num den : Int) (w : World) (h1 : -9223372036854775808 ≤ num ∧ num ≤ 9223372036854775807) (h2 : -9223372036854775808 ≤ den ∧ den ≤ 9223372036854775807) :
    Calls Try.prog 13 #[.agg #[.int .i64 num, .int .i64 den]] w fun e w' => e = .returned (.int .i64 (slopeF num den 1000 1000)) ∧ w.grownBy w' none := by
  have hg0 := gr_alloc (World.grownBy.refl w none) (.cells #[.int .i64 num, .int .i64 den] 32)
  go_enter Try.func13, Try.ntmps13
  go_wp2_with fail
  refine (slopeFault_any num den 1000 1000 _ h1 h2).mono ?_
  rintro e w1 ⟨rfl, hg1⟩
  go_wp2_with fail
  go_ret
  exact ⟨rfl, gr_trans hg0 hg1⟩

def absI (n : Int) : Int := max n (-n)

theorem abs_any (n : Int) (w : World) (h : -9223372036854775807 ≤ n ∧ n ≤ 9223372036854775807) : Calls Try.prog 52 #[.int .i64 n] w fun e w' => e = .returned (.int .i64 (absI n)) ∧ w = w' := by
  go_enter Try.func52, Try.ntmps52
  go_wp2
  go_ret
  exact ⟨ret_int (by unfold absI; first | rfl | go_num), rfl⟩

end Go.Proofs.Ytjodjdjfagjiaaa
