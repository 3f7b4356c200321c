/- Contracts of functions that this seat's laws reach, each: what one call returns and what it leaves in memory; no condition beyond each theorem's own hypotheses. -/
import Derived.Test.YtpdhbhlnopmifaaGreatDoorZqSimpA
import Derived.Test.YtpdhbhlnopmifaaGreatDoorZqWallB
import Derived.Test.YtpdhbhlnopmifaaGreatDoorZqPathN
set_option linter.unusedVariables false
set_option linter.unusedSimpArgs false
namespace Go.Proofs.YtpdhbhlnopmifaaGreatDoor
open Go Go.RowKit Go.Bl

def ringP (r : List Pt) : PathV := ⟨r, true⟩

def pathsR (rs : List (List Pt)) : List PathV := rs.map ringP

end Go.Proofs.YtpdhbhlnopmifaaGreatDoor
