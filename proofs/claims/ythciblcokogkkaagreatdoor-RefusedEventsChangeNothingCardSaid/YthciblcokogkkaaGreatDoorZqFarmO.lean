/- Contracts of functions that this seat's laws reach, each: what one call returns and what it leaves in memory; no condition beyond each theorem's own hypotheses. -/
import Derived.Test.YthciblcokogkkaaGreatDoorZqEqStr
import Derived.Test.YthciblcokogkkaaGreatDoorZqWords
set_option linter.unusedVariables false
set_option linter.unusedSimpArgs false
namespace Go.Proofs.YthciblcokogkkaaGreatDoor
open Go Go.RowKit Go.Bl

def kWords : List ByteArray := [⟨#[112, 49]⟩, ⟨#[112, 50]⟩, ⟨#[112, 51]⟩]

end Go.Proofs.YthciblcokogkkaaGreatDoor
