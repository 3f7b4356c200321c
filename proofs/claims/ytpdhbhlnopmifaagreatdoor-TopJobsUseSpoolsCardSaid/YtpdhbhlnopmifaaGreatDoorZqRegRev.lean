/- Contracts of functions that this seat's laws reach, each: what one call returns and what it leaves in memory; no condition beyond each theorem's own hypotheses. -/
import Derived.Test.YtpdhbhlnopmifaaGreatDoorZqPathF
import Derived.Test.YtpdhbhlnopmifaaGreatDoorZqNestCat
set_option linter.unusedVariables false
set_option linter.unusedSimpArgs false
namespace Go.Bl

end Go.Bl
namespace Go.Proofs.YtpdhbhlnopmifaaGreatDoor
open Go.RowKit Go.Bl

end Go.Proofs.YtpdhbhlnopmifaaGreatDoor

namespace Go.Proofs.YtpdhbhlnopmifaaGreatDoor
open Go.RowKit Go.Bl

end Go.Proofs.YtpdhbhlnopmifaaGreatDoor
