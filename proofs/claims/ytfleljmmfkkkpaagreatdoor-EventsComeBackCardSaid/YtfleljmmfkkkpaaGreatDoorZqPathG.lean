/- Contracts of functions that this seat's laws reach, each: what one call returns and what it leaves in memory; no condition beyond each theorem's own hypotheses. -/
import Derived.Test.YtfleljmmfkkkpaaGreatDoorZqPathF
import Derived.Test.YtfleljmmfkkkpaaGreatDoorZqNestCat
set_option linter.unusedVariables false
set_option linter.unusedSimpArgs false
namespace Go.Bl

theorem Own.set_pt {w : World} {lo : Nat} {e : TypeId} {g c : Nat} {l : List Pt} (h : Own w lo e (some ⟨g, 0, none⟩) c l) {i : Nat} (hi : i < l.length) (p : Pt) :
    Own ((w.setCell ⟨g, i * 2, none⟩ (.int .i64 p.x)).setCell ⟨g, i * 2 + 1, none⟩ (.int .i64 p.y)) lo e (some ⟨g, 0, none⟩) c (l.set i p) := by
  have h1 := h.put hi (j := 0) (x := ⟨p.x, l[i].y⟩) (u := .int .i64 p.x) (by decide) (by rintro c1 rfl; rfl)
  have h2 := h1.put (i := i) (j := 1) (x := p) (u := .int .i64 p.y) (by simpa using hi) (by decide) (by rintro c1 hc; simp at hc; rw [hc]; rfl)
  simp only [List.set_set] at h2
  exact h2

theorem Own.cell_pt {w : World} {lo : Nat} {e : TypeId} {g c : Nat} {l : List Pt} (h : Own w lo e (some ⟨g, 0, none⟩) c l) {i : Nat} (hi : i < l.length) : w.cell? ⟨g, i * 2, none⟩ = some (.int .i64 l[i].x) ∧ w.cell? ⟨g, i * 2 + 1, none⟩ = some (.int .i64 l[i].y) := by
  obtain ⟨c1, rfl, hc⟩ := h.cell_at (by decide) hi
  exact ⟨hc 0 _ rfl, hc 1 _ rfl⟩

end Go.Bl
namespace Go.Proofs.YtfleljmmfkkkpaaGreatDoor
open Go.RowKit Go.Bl

end Go.Proofs.YtfleljmmfkkkpaaGreatDoor
