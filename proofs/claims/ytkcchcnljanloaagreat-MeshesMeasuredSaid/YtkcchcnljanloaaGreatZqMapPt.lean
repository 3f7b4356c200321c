/- Contracts of functions that this seat's laws reach, each: what one call returns and what it leaves in memory; no condition beyond each theorem's own hypotheses. -/
import Derived.Test.YtkcchcnljanloaaGreatZqPathA
import Derived.Test.YtkcchcnljanloaaGreatZqMapLib
set_option linter.unusedVariables false
set_option linter.unusedSimpArgs false
namespace Go.Proofs.YtkcchcnljanloaaGreat
open Go.RowKit Go.Bl Go.Maps Go.WideShapes

def okP (s : Pt) : Prop := (Lit.int .i64 s.x).wf = true ∧ (Lit.int .i64 s.y).wf = true

def ptV (s : Pt) : Value := .agg #[.int .i64 s.x, .int .i64 s.y]

def ptK (s : Pt) : Lit := .string (keyBytes [.int .i64 s.x, .int .i64 s.y])

/-- the set of sides that are there -/
def setP (l : List Pt) : Pt → Option Bool := fun s => if s ∈ l then some true else none

end Go.Proofs.YtkcchcnljanloaaGreat
