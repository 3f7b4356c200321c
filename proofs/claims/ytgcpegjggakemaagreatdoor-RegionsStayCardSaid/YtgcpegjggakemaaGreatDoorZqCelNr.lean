/- Contracts of functions that this seat's laws reach, each: what one call returns and what it leaves in memory; no condition beyond each theorem's own hypotheses. -/
import Derived.Test.YtgcpegjggakemaaGreatDoorZqCelN
import Derived.Test.YtgcpegjggakemaaGreatDoorZqGrowData
set_option linter.unusedVariables false
set_option linter.unusedSimpArgs false
namespace Go.Bl
open Go

def NearS (S : Int → Int → Bool) : Prop := ∀ x y, S x y = true → -50 ≤ x ∧ x < 50 ∧ -50 ≤ y ∧ y < 50

theorem pair_zero {a b : Cel} (ha : CellsOk a) (hb : CellsOk b) (hs : a.step = b.step) : pairF a b = 0 := by
  simp [pairF, cells_ok.2 ha, cells_ok.2 hb, hs]

end Go.Bl
