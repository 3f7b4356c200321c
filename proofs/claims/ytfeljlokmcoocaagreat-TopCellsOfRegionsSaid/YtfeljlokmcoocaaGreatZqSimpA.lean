/- Contracts of functions that this seat's laws reach, each: what one call returns and what it leaves in memory; no condition beyond each theorem's own hypotheses. -/
import Derived.Test.YtfeljlokmcoocaaGreatZqDepT
import Derived.Test.YtfeljlokmcoocaaGreatZqRegH
import Derived.Test.YtfeljlokmcoocaaGreatZqRegGenB
import Derived.Test.YtfeljlokmcoocaaGreatZqTree
import Derived.Test.YtfeljlokmcoocaaGreatZqGr2
set_option linter.unusedVariables false
set_option linter.unusedSimpArgs false
namespace Go.Proofs.YtfeljlokmcoocaaGreat
open Go Go.RowKit Go.Bl

def simpK (r : List Pt) (j : Nat) : List Pt := ((List.range j).filter fun k => decide (tzF r.length (cor r) k ≠ 0)).map (cor r)

end Go.Proofs.YtfeljlokmcoocaaGreat
