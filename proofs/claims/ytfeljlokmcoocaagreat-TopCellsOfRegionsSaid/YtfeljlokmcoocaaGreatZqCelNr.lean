/- Contracts of functions that this seat's laws reach, each: what one call returns and what it leaves in memory; no condition beyond each theorem's own hypotheses. -/
import Derived.Test.YtfeljlokmcoocaaGreatZqCelM
import Derived.Test.YtfeljlokmcoocaaGreatZqCellCnt
set_option linter.unusedVariables false
set_option linter.unusedSimpArgs false
namespace Go.Bl
open Go

def NearS (S : Int → Int → Bool) : Prop := ∀ x y, S x y = true → -50 ≤ x ∧ x < 50 ∧ -50 ≤ y ∧ y < 50

theorem pair_zero {a b : Cel} (ha : CellsOk a) (hb : CellsOk b) (hs : a.step = b.step) : pairF a b = 0 := by
  simp [pairF, cells_ok.2 ha, cells_ok.2 hb, hs]

theorem res_right {a b c : Cel} {S : Int → Int → Bool} {er : Int} (h : ResC (pairF a b) a.step S c er) (ha : CellsOk a) (hb : CellsOk b) (hs : a.step = b.step) (hn : NearS S) :
    er = 0 ∧ CellsOk c ∧ c.step = a.step ∧ ∀ x y, onC c x y = S x y := by
  rcases h with ⟨h, -⟩ | ⟨-, h⟩
  · exact absurd (pair_zero ha hb hs) h
  · obtain rfl := h.zero ha.step hn
    exact ⟨rfl, h.back ha.step⟩

end Go.Bl
