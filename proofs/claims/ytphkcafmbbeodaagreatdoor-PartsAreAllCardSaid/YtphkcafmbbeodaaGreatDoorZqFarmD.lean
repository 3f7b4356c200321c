/- Contracts of functions that this seat's laws reach, each: what one call returns and what it leaves in memory; no condition beyond each theorem's own hypotheses. -/
import Derived.Test.YtphkcafmbbeodaaGreatDoorZqNestCat
import Derived.Test.YtphkcafmbbeodaaGreatDoorZqFarmC
import Derived.Test.YtphkcafmbbeodaaGreatDoorZqGr2
set_option linter.unusedVariables false
set_option linter.unusedSimpArgs false
namespace Go.Proofs.YtphkcafmbbeodaaGreatDoor
open Go.RowKit Go.Bl

theorem sl_inner {w : World} {A : Option Addr} {ls : List (List Int)} (hA : Sl w 0 A ls) {k : Nat} (hlt : k < ls.length) :
    ∃ g o B d, A = some ⟨g, o, none⟩ ∧ g < w.heap.size ∧ w.cell? ⟨g, o + k, none⟩ = some (.slice B ls[k].length d) ∧ Sl w 0 B ls[k] := by
  obtain ⟨g, o, cx, rfl, hb0, hb1, ⟨B, d, rfl, _, hs⟩, hc⟩ := hA.at_ (by decide) hlt
  exact ⟨g, o, B, d, rfl, hb1, by have := hc 0 _ rfl; rwa [show Enc.sz (List Int) = 1 from rfl, Nat.mul_one] at this, hs⟩

end Go.Proofs.YtphkcafmbbeodaaGreatDoor
