/- Contracts of functions that this seat's laws reach, each: what one call returns and what it leaves in memory; no condition beyond each theorem's own hypotheses. -/
import Derived.Test.YtgcpegjggakemaaGreatDoorZqPathA
import Derived.Test.YtgcpegjggakemaaGreatDoorZqClosData
import Derived.Test.YtgcpegjggakemaaGreatDoorZqGr2
set_option linter.unusedVariables false
set_option linter.unusedSimpArgs false
namespace Go.Proofs.YtgcpegjggakemaaGreatDoor
open Go Go.RowKit Go.Bl

def SInts (b : Nat) (N : Int) (n : Nat) (w : World) (e : Ending) (w' : World) : Prop := ∃ (l : List Int) (A : Option Addr) (c : Nat), e = .returned (.slice A l.length c) ∧ Own w' w.heap.size 3 A c l ∧ l.length = n ∧ SOut b N w w'

def SStr (b : Nat) (N : Int) (w : World) (e : Ending) (w' : World) : Prop := ∃ s : ByteArray, e = .returned (.string s) ∧ SOut b N w w'

theorem row_strs (w : World) (lo : Nat) (l : List ByteArray) : Row w lo l (l.map Value.string) := by
  induction l with
  | nil => rfl
  | cons x l ih => exact ⟨[.string x], l.map Value.string, rfl, rfl, ih⟩

theorem sl_strsAt (w : World) (lo : Nat) (t : TypeId) (l : List ByteArray) (g : Nat) (hg : g = w.heap.size) (hlo : lo ≤ w.heap.size) (hm : l.length ≤ maxLen) :
    Sl (w.alloc (.cells (l.map Value.string).toArray t)) lo (some ⟨g, 0, none⟩) l := by
  subst hg
  exact sl_lit w lo (l.map Value.string) t l hlo hm (row_strs _ _ _)

end Go.Proofs.YtgcpegjggakemaaGreatDoor
