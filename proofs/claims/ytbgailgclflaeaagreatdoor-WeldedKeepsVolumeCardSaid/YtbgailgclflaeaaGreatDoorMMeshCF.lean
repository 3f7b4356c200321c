/- Contracts of functions that this seat's laws reach, each: what one call returns and what it leaves in memory; no condition beyond each theorem's own hypotheses. -/
import Derived.Test.YtbgailgclflaeaaGreatDoorMMeshCE
import Derived.Test.YtbgailgclflaeaaGreatDoorMNestCat
set_option linter.unusedVariables false
set_option linter.unusedSimpArgs false
namespace Go.Proofs.YtbgailgclflaeaaGreatDoor
open Go.RowKit Go.Bl

def joinE (m n : MeshV) : Int := if meshF m ≠ 0 then meshF m else if meshF n ≠ 0 then meshF n else meshF (joinM m n)
def joinR (m n : MeshV) : MeshV := if meshF m ≠ 0 ∨ meshF n ≠ 0 then ⟨[], []⟩ else okM (joinM m n)

end Go.Proofs.YtbgailgclflaeaaGreatDoor
