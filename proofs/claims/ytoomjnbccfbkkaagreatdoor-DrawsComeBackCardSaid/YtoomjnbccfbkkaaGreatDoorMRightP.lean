/- Contracts of functions that this seat's laws reach, each: what one call returns and what it leaves in memory; no condition beyond each theorem's own hypotheses. -/
import Derived.Test.YtoomjnbccfbkkaaGreatDoorMPathE
import Derived.Test.YtoomjnbccfbkkaaGreatDoorMPathB
set_option linter.unusedVariables false
set_option linter.unusedSimpArgs false
namespace Go.Proofs.YtoomjnbccfbkkaaGreatDoor
open Go.RowKit Go.Bl

def RPOut (b : Nat) (N : Int) (most : Nat) (w : World) (e : Ending) (w' : World) : Prop := ∃ (l : List PathV) (A : Option Addr) (c : Nat), e = .returned (.slice A l.length c) ∧ Sl w' w.heap.size A l ∧ pathsF l = 0 ∧ l.length ≤ most ∧ (∀ p ∈ l, p.pts.length ≤ 4) ∧ SOut b (N + 6000) w w'

end Go.Proofs.YtoomjnbccfbkkaaGreatDoor
