/- Contracts of functions that this seat's laws reach, each: what one call returns and what it leaves in memory; no condition beyond each theorem's own hypotheses. -/
import Derived.Test.YtpdhbhlnopmifaaGreatDoorZqRegRev
import Derived.Test.YtpdhbhlnopmifaaGreatDoorZqPathA
import Derived.Test.YtpdhbhlnopmifaaGreatDoorZqRegRefC
set_option linter.unusedVariables false
set_option linter.unusedSimpArgs false
namespace Go.Proofs.YtpdhbhlnopmifaaGreatDoor
open Go Go.RowKit Go.Bl

/-- a ring of new memory -/
def SRing (b : Nat) (N : Int) (w : World) (e : Ending) (w' : World) : Prop := ∃ (g c : Nat) (l : List Pt), e = .returned (.slice (some ⟨g, 0, none⟩) l.length c) ∧ Sl w' w.heap.size (some ⟨g, 0, none⟩) l ∧ l.length ≤ c ∧ l.length ≤ 6 ∧ (w.heap.size ≤ g ∧ g < w'.heap.size) ∧ SOut b N w w'

end Go.Proofs.YtpdhbhlnopmifaaGreatDoor

namespace Go.Proofs.YtpdhbhlnopmifaaGreatDoor
open Go Go.RowKit Go.Bl

/-- a region of new memory -/
def SReg (b : Nat) (N : Int) (w : World) (e : Ending) (w' : World) : Prop := ∃ (A : Option Addr) (c : Nat) (rs : List (List Pt)), e = .returned (.slice A rs.length c) ∧ OwnN RawS w' w.heap.size 83 A c rs ∧ rs.length ≤ c ∧ rs.length ≤ 3 ∧ (∀ r ∈ rs, r.length ≤ 6) ∧ SOut b N w w'

end Go.Proofs.YtpdhbhlnopmifaaGreatDoor
