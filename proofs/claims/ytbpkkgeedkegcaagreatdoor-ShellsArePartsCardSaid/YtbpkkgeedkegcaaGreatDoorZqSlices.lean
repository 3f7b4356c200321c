/- Contracts of functions that this seat's laws reach, each: what one call returns and what it leaves in memory; no condition beyond each theorem's own hypotheses. -/
import Derived.Test.YtbpkkgeedkegcaaGreatDoorRows
import Derived.Test.YtbpkkgeedkegcaaGreatDoorZqTree
set_option linter.unusedVariables false
set_option linter.unusedSimpArgs false
namespace Go.Proofs.YtbpkkgeedkegcaaGreatDoor
open Go.RowKit Go.Bl

theorem infoI : (Tryz.prog.info? 3).map (fun i => (i.zero, i.size, i.bytes)) = some (some (.int .i64 0), 1, 8) := by kernel_rfl

theorem isNaN2_any (x : Int) (w : World) : Calls Tryz.prog 67 #[.int .i64 x] w fun e w' => e = .returned (.bool false) ∧ w = w' := by
  go_enter Tryz.func67, Tryz.ntmps67
  go_wp2
  go_ret
  exact ⟨rfl, rfl⟩

def ltB (x y : Int) : Bool := decide (x < y)

set_option maxHeartbeats 400000 in
theorem lessInt_any (x y : Int) (w : World) : Calls Tryz.prog 34 #[.int .i64 x, .int .i64 y] w fun e w' => e = .returned (.bool (ltB x y)) ∧ w = w' := by
  go_enter Tryz.func34, Tryz.ntmps34
  go_wp2_with (go_at_call 67; refine (isNaN2_any _ _).mono ?_; rintro e w' ⟨rfl, rfl⟩)
  go_ret
  exact ⟨rfl, rfl⟩

theorem mem_of_get {l : List Int} {x : Int} {k : Nat} (hk : k < l.length) (h : l[k] = x) : memB l x = true := by
  simp only [memB, decide_eq_true_eq]; rw [← h]; exact List.getElem_mem _

theorem mem_none {l : List Int} {x : Int} {k : Nat} (h0 : ∀ i (hi : i < l.length), i < k → l[i] < x) (h1 : ∀ i (hi : i < l.length), k ≤ i → x < l[i]) : memB l x = false := by
  simp only [memB, decide_eq_false_iff_not]
  intro hx
  obtain ⟨i, hi, e⟩ := List.getElem_of_mem hx
  rcases Nat.lt_or_ge i k with h | h
  · have := h0 i hi h; omega
  · have := h1 i hi h; omega

end Go.Proofs.YtbpkkgeedkegcaaGreatDoor
