/- Contracts of functions that this seat's laws reach, each: what one call returns and what it leaves in memory; no condition beyond each theorem's own hypotheses. -/
import Derived.Test.YtbpkkgeedkegcaaGreatDoorRows
import Derived.Test.YtbpkkgeedkegcaaGreatDoorZqTree
set_option linter.unusedVariables false
set_option linter.unusedSimpArgs false
namespace Go.Proofs.YtbpkkgeedkegcaaGreatDoor
open Go.RowKit Go.Bl

def ltB (x y : Int) : Bool := decide (x < y)

end Go.Proofs.YtbpkkgeedkegcaaGreatDoor
