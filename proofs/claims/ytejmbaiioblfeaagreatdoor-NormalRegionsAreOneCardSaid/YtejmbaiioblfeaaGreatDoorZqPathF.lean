/- Contracts of functions that this seat's laws reach, each: what one call returns and what it leaves in memory; no condition beyond each theorem's own hypotheses. -/
import Derived.Test.YtejmbaiioblfeaaGreatDoorZqFlowD
import Derived.Test.YtejmbaiioblfeaaGreatDoorZqKit3
set_option linter.unusedVariables false
set_option linter.unusedSimpArgs false
namespace Go.Proofs.YtejmbaiioblfeaaGreatDoor
open Go.RowKit Go.Bl

def dist (a b : Pt) : Int := max (max (a.x - b.x) (-(a.x - b.x))) (max (a.y - b.y) (-(a.y - b.y)))

def near (p : Pt) : Prop := (-100000 ≤ p.x ∧ p.x ≤ 100000) ∧ (-100000 ≤ p.y ∧ p.y ≤ 100000)

end Go.Proofs.YtejmbaiioblfeaaGreatDoor
