/- Contracts of functions that this seat's laws reach, each: what one call returns and what it leaves in memory; no condition beyond each theorem's own hypotheses. -/
import Derived.Test.YtpdhbhlnopmifaaGreatDoorZqFitG
import Derived.Test.YtpdhbhlnopmifaaGreatDoorZqMapStr
set_option linter.unusedVariables false
set_option linter.unusedSimpArgs false
namespace Go.Proofs.YtpdhbhlnopmifaaGreatDoor
open Go Go.RowKit Go.Bl Go.Maps Go.WideShapes

theorem spl_ne {s : List Spl} (h : splsF s = 0) : ∀ i j (hi : i < s.length) (hj : j < s.length), i ≠ j → s[i].key ≠ s[j].key := fun i j hi hj hne e => by
  rcases Nat.lt_or_ge i j with h1 | h1
  · have h2 := spl_sorted h j i hj h1
    rw [e, cmpK_zero.2 rfl] at h2
    cases h2
  · have h2 := spl_sorted h i j hi (by omega)
    rw [e, cmpK_zero.2 rfl] at h2
    cases h2
/-- the map holds what the first spools have left -/
def MI1 (s : List Spl) (j : Nat) (mp : ByteArray → Option Int) : Prop := ∀ i (h : i < s.length), i < j → mp s[i].key = some s[i].left

theorem MI1.step {s : List Spl} {j : Nat} {mp : ByteArray → Option Int} (h : MI1 s j mp) (h0 : splsF s = 0) (hj : j < s.length) : MI1 s (j + 1) (updM mp s[j].key s[j].left) := fun i hi hij => by
  by_cases e : i = j
  · subst e
    exact updM_same _ _ _
  · rw [updM_ne (spl_ne h0 i j hi hj e)]
    exact h i hi (by omega)

/-- the map while needs are put -/
def MI2 (s : List Spl) (m : ByteArray) (left : List Int) (mp : ByteArray → Option Int) : Prop := left.length = s.length ∧ ∀ i (h : i < s.length), (s[i].mat = m → mp s[i].key = some (left.getD i 0)) ∧ (s[i].mat ≠ m → left.getD i 0 = -1)

theorem MI2.start {s : List Spl} {m : ByteArray} {mp : ByteArray → Option Int} (h : MI1 s s.length mp) : MI2 s m (leftL s m) mp := by
  refine ⟨leftL_len s m, fun i hi => ?_⟩
  have e : (leftL s m).getD i 0 = if s[i].mat = m then s[i].left else -1 := by
    rw [getD_at (by rw [leftL_len]; exact hi)]
    unfold leftL
    simp
  refine ⟨fun hm => ?_, fun hm => ?_⟩
  · rw [e, if_pos hm]; exact h i hi hi
  · rw [e, if_neg hm]

theorem MI2.mat {s : List Spl} {m : ByteArray} {left : List Int} {mp : ByteArray → Option Int} (h : MI2 s m left mp) {k : Nat} (hk : k < s.length) {n : Int} (hn : 1 ≤ n) (hl : n ≤ left.getD k 0) : s[k].mat = m := Classical.byContradiction fun hc => by
  have := (h.2 k hk).2 hc
  omega

theorem MI2.step {s : List Spl} {m : ByteArray} {left : List Int} {mp : ByteArray → Option Int} (h : MI2 s m left mp) (h0 : splsF s = 0) {k : Nat} (hk : k < s.length) (hm : s[k].mat = m) (v : Int) : MI2 s m (left.set k v) (updM mp s[k].key v) := by
  refine ⟨by rw [List.length_set]; exact h.1, fun i hi => ?_⟩
  by_cases e : i = k
  · subst e
    refine ⟨fun _ => ?_, fun hc => absurd hm hc⟩
    rw [updM_same, Go.Bl.getD_set_same (by rw [h.1]; exact hi)]
  · rw [updM_ne (spl_ne h0 i k hi hk e), Go.Bl.getD_set_ne (fun h => e h.symm)]
    exact h.2 i hi

theorem PutTo.cons_inv {n : Int} {ns left out left' : List Int} (h : PutTo (n :: ns) left out left') : ∃ (k : Nat) (out' : List Int), out = (k : Int) :: out' ∧ k < left.length ∧ n ≤ left.getD k 0 ∧ PutTo ns (left.set k (left.getD k 0 - n)) out' left' := h

end Go.Proofs.YtpdhbhlnopmifaaGreatDoor
