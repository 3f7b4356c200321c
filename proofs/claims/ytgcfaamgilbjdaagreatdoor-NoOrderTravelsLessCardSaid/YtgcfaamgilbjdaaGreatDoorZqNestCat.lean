/- Contracts of functions that this seat's laws reach, each: what one call returns and what it leaves in memory; no condition beyond each theorem's own hypotheses. -/
import Derived.Test.YtgcfaamgilbjdaaGreatDoorZqBitRun
import Derived.Lib.AppendZerosOnto
import Derived.Lib.SliceRun
import Derived.Lib.AppendStr
set_option linter.unusedVariables false
set_option linter.unusedSimpArgs false
namespace Go.Bl
open Go Go.RowKit
variable {P : Program}

/-- the slices of a row, each with an address -/
def Heads {α : Type} [Enc α] (w : World) (rs : List RawS) (ls : List (List α)) : Prop := All2 (fun r l => r.n = l.length ∧ (∃ ad, r.A = some ad) ∧ Sl w 0 r.A l) rs ls

theorem Heads.pure {α : Type} [Enc α] {w w' : World} {rs : List RawS} {ls : List (List α)} (h : Heads w rs ls) (hg : w.grownBy w' none) : Heads w' rs ls := All2.imp h fun _ _ ⟨h1, h2, h3⟩ => ⟨h1, h2, h3.pure hg⟩
/-- the first k, one behind the other -/
def flatK {α : Type} (ls : List (List α)) (k : Nat) : List α := (ls.take k).flatten

theorem flatK_snoc {α : Type} {ls : List (List α)} {k : Nat} (h : k < ls.length) : flatK ls (k + 1) = flatK ls k ++ ls[k] := by
  unfold flatK; rw [List.take_succ_eq_append_getElem h, List.flatten_append]; simp

theorem flatK_all {α : Type} {ls : List (List α)} {k : Nat} (h : ls.length ≤ k) : flatK ls k = ls.flatten := by unfold flatK; rw [List.take_of_length_le h]

theorem flatK_le {α : Type} (ls : List (List α)) (k : Nat) : (flatK ls k).length ≤ (flatK ls ls.length).length := by
  rw [flatK_all (Nat.le_refl _)]
  have : ls.flatten = (ls.take k).flatten ++ (ls.drop k).flatten := by rw [← List.flatten_append, List.take_append_drop]
  rw [this, List.length_append]; unfold flatK; omega

/-- the outer k of both ends exchanged -/
def revK {α : Type} [Inhabited α] (l : List α) (k : Nat) : List α := (List.range l.length).map fun j => if j < k ∨ l.length - k ≤ j then l.getD (l.length - 1 - j) default else l.getD j default
section
variable {α : Type} [Inhabited α]

end

end Go.Bl

namespace Go.Bl
open Go

end Go.Bl
