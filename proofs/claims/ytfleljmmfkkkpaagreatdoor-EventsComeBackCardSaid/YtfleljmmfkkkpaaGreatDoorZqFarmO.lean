/- Contracts of functions that this seat's laws reach, each: what one call returns and what it leaves in memory; no condition beyond each theorem's own hypotheses. -/
import Derived.Test.YtfleljmmfkkkpaaGreatDoorZqFarmN
import Derived.Test.YtfleljmmfkkkpaaGreatDoorZqWords
set_option linter.unusedVariables false
set_option linter.unusedSimpArgs false
namespace Go.Proofs.YtfleljmmfkkkpaaGreatDoor
open Go Go.RowKit Go.Bl

theorem Own.set_prn0 {w : World} {lo : Nat} {e : TypeId} {g c : Nat} {l : List Prn} (h : Own w lo e (some ⟨g, 0, none⟩) c l) {i : Nat} (hi : i < l.length) (s : ByteArray) : Own (w.setCell ⟨g, i * 2, none⟩ (.string s)) lo e (some ⟨g, 0, none⟩) c (l.set i ⟨s, l[i].mat⟩) :=
  h.put hi (j := 0) (x := ⟨s, l[i].mat⟩) (u := .string s) (by decide) (by rintro c1 rfl; rfl)

theorem Own.set_prn1 {w : World} {lo : Nat} {e : TypeId} {g c : Nat} {l : List Prn} (h : Own w lo e (some ⟨g, 0, none⟩) c l) {i : Nat} (hi : i < l.length) (s : ByteArray) : Own (w.setCell ⟨g, i * 2 + 1, none⟩ (.string s)) lo e (some ⟨g, 0, none⟩) c (l.set i ⟨l[i].key, s⟩) :=
  h.put hi (j := 1) (x := ⟨l[i].key, s⟩) (u := .string s) (by decide) (by rintro c1 rfl; rfl)

def kWords : List ByteArray := [⟨#[112, 49]⟩, ⟨#[112, 50]⟩, ⟨#[112, 51]⟩]

end Go.Proofs.YtfleljmmfkkkpaaGreatDoor
