/- Contracts of functions that this seat's laws reach, each: what one call returns and what it leaves in memory; no condition beyond each theorem's own hypotheses. -/
import Derived.Test.YtgcfaamgilbjdaaGreatDoorZqPathF
import Derived.Test.YtgcfaamgilbjdaaGreatDoorZqNestCat
set_option linter.unusedVariables false
set_option linter.unusedSimpArgs false
namespace Go.Bl

end Go.Bl
namespace Go.Proofs.YtgcfaamgilbjdaaGreatDoor
open Go.RowKit Go.Bl

end Go.Proofs.YtgcfaamgilbjdaaGreatDoor
