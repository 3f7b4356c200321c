/- Contracts of functions that this seat's laws reach, each: what one call returns and what it leaves in memory; no condition beyond each theorem's own hypotheses. -/
import Derived.Test.YtpdhbhlnopmifaaGreatDoorZqFitC
import Derived.Test.YtpdhbhlnopmifaaGreatDoorZqMostData
set_option linter.unusedVariables false
set_option linter.unusedSimpArgs false
namespace Go.Proofs.YtpdhbhlnopmifaaGreatDoor
open Go Go.RowKit Go.Bl Go.Lib

end Go.Proofs.YtpdhbhlnopmifaaGreatDoor
