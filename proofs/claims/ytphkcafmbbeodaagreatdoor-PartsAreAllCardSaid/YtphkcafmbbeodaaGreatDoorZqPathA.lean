/- Contracts of functions that this seat's laws reach, each: what one call returns and what it leaves in memory; no condition beyond each theorem's own hypotheses. -/
import Derived.Test.YtphkcafmbbeodaaGreatDoorZqStream
import Derived.Test.YtphkcafmbbeodaaGreatDoorZqFlowA
import Derived.Test.YtphkcafmbbeodaaGreatDoorZqKit3
set_option linter.unusedVariables false
set_option linter.unusedSimpArgs false
namespace Go.Proofs.YtphkcafmbbeodaaGreatDoor
open Go.RowKit Go.Bl

theorem info_pt : (Tryz.prog.info? 83).map (fun i => (i.zero, i.size, i.bytes)) = some (some (.agg #[.int .i64 0, .int .i64 0]), 2, 16) := by kernel_rfl

def SPt (b : Nat) (N : Int) (w : World) (e : Ending) (w' : World) : Prop := ∃ p : Pt, e = .returned (.agg #[.int .i64 p.x, .int .i64 p.y]) ∧ SOut b N w w'

end Go.Proofs.YtphkcafmbbeodaaGreatDoor
