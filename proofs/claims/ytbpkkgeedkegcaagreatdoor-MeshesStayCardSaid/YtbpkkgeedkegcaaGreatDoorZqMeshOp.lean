/- Contracts of functions that this seat's laws reach, each: what one call returns and what it leaves in memory; no condition beyond each theorem's own hypotheses. -/
import Derived.Test.YtbpkkgeedkegcaaGreatDoorZqMeshJ
import Derived.Test.YtbpkkgeedkegcaaGreatDoorZqOpenSort
set_option linter.unusedVariables false
set_option linter.unusedSimpArgs false
namespace Go.Proofs.YtbpkkgeedkegcaaGreatDoor
open Go.RowKit Go.Bl

theorem sortSidesR_any (A : Option Addr) (c : Nat) (lo : Nat) (l : List Sd) (w : World) (ho : Own w lo 100 A c l) (hl : l.length ≤ 1000000) :
    Calls Tryz.prog 55 #[.slice A l.length c, .func (.func 56) #[] #[]] w fun e w' => e = .returned (.tuple #[]) ∧ ∃ l' : List Sd, l'.Perm l ∧ SrtS l' ∧ Own w' lo 100 A c l' ∧ w.grownBy w' (blk A) := by
  rcases own_cases ho with ⟨rfl, rfl, rfl⟩ | ⟨g, rfl⟩
  · refine (sortNil_any w _).mono ?_
    rintro e w' ⟨rfl, rfl⟩
    exact ⟨rfl, [], List.Perm.refl _, fun i j hi => by simp at hi, ho, World.grownBy.refl _ _⟩
  · exact sortSidesR_own g c lo l w ho hl

theorem TakS.nil (L : List Sd) : TakS L (fun x => (setS L x).isSome = true) [] := by
  refine ⟨by simp, fun s => ?_⟩
  simp only [List.not_mem_nil, false_iff]
  rintro ⟨h1, h2, -⟩
  exact h2 (by simp [setS, h1])

end Go.Proofs.YtbpkkgeedkegcaaGreatDoor
