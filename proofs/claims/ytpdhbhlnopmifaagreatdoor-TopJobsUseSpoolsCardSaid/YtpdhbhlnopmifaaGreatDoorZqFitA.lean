/- Contracts of functions that this seat's laws reach, each: what one call returns and what it leaves in memory; no condition beyond each theorem's own hypotheses. -/
import Derived.Test.YtpdhbhlnopmifaaGreatDoorZqGrS
import Derived.Test.YtpdhbhlnopmifaaGreatDoorZqMostData
set_option linter.unusedVariables false
set_option linter.unusedSimpArgs false
namespace Go.Bl
open Go Go.RowKit

theorem block_cells {w : World} {g i : Nat} {v : Value} (h : w.cell? ⟨g, i, none⟩ = some v) : ∃ cs t k, w.heap[g]? = some (.cells cs t k) ∧ cs[i]? = some v := by
  unfold World.cell? at h
  simp only [Option.isSome_none, Bool.false_eq_true, if_false] at h
  split at h
  · rename_i c t k he
    exact ⟨c, t, k, he, h⟩
  · cases h
/-- written, other things grown, written back: all is as it was -/
theorem set_back {w w2 : World} {g i : Nat} {v v0 : Value} (h0 : w.cell? ⟨g, i, none⟩ = some v0) (hg : (w.setCell ⟨g, i, none⟩ v).grownBy w2 none) : w.grownBy (w2.setCell ⟨g, i, none⟩ v0) none := by
  have hs := hg.size
  have hz : (w.setCell ⟨g, i, none⟩ v).heap.size = w.heap.size := by unfold World.setCell; simp
  refine { os := hg.os, tape := hg.tape, output := hg.output, size := ?_, block := fun j hj _ => ?_ }
  · unfold World.setCell
    simp only [Array.size_modify]
    omega
  · have h1 := hg.block j (by omega) (by simp)
    unfold World.setCell at h1 ⊢
    simp only [Array.getElem?_modify, Option.isSome_none, Bool.false_eq_true, if_false] at h1 ⊢
    by_cases e : g = j
    · subst e
      obtain ⟨cs, t, k, h2, h3⟩ := block_cells h0
      rw [if_pos rfl] at h1 ⊢
      rw [h2] at h1
      rw [h1, h2]
      simp only [Option.map_some]
      congr 2
      refine Array.ext_getElem? fun q => ?_
      simp only [Array.getElem?_setIfInBounds, Array.size_setIfInBounds]
      by_cases hq : i = q
      · subst hq
        obtain ⟨hlt, h4⟩ := Array.getElem?_eq_some_iff.1 h3
        simp [hlt, h4]
      · simp [hq]
    · rw [if_neg e] at h1 ⊢
      exact h1

end Go.Bl
