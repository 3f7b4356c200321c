/- Contracts of functions that this seat's laws reach, each: what one call returns and what it leaves in memory; no condition beyond each theorem's own hypotheses. -/
import Derived.Test.YtgcpegjggakemaaGreatDoorZqHasA
import Derived.Test.YtgcpegjggakemaaGreatDoorZqCompData
set_option linter.unusedVariables false
set_option linter.unusedSimpArgs false
namespace Go.Bl
open Go

theorem mk_ok2 {step : Int} {S : Int → Int → Bool} {x0 y0 x1 y1 : Int} (hb : Box4 S x0 y0 x1 y1) (hs : stepB step = false) (h1 : x1 - x0 ≤ 199) (h2 : y1 - y0 ≤ 199) (hx : -2000000 ≤ x0 * step ∧ x0 * step ≤ 2000000) (hy : -2000000 ≤ y0 * step ∧ y0 * step ≤ 2000000) : CellsOk (mkC step S x0 y0 x1 y1) := by
  have hp := step_pos hs
  have hle := hb.le
  have hlen : (mkC step S x0 y0 x1 y1).rows.length = (y1 - y0 + 1).toNat := rowsB_len
  have hwd : wideR (mkC step S x0 y0 x1 y1).rows = (x1 - x0 + 1).toNat := by
    show (List.getD (rowsB _ _ _ _ _) 0 _).size = _
    rw [rowsB_at (by omega), rowB_size]
  have hbit : ∀ j i : Nat, j < (y1 - y0 + 1).toNat → i < (x1 - x0 + 1).toNat → bit (mkC step S x0 y0 x1 y1).rows j i = S (x0 + i) (y0 + j) := fun j i hj hi => rowsB_bit hj hi
  have hbd : ∀ a : Int, -2000000 ≤ a * step ∧ a * step ≤ 2000000 → outB (a * step) (-2000000) 2000000 = false := fun a h => by
    simp only [outB, Bool.or_eq_false_iff, decide_eq_false_iff_not]
    omega
  refine ⟨hs, fun h => by omega, by omega, fun j hj => ?_, by omega, fun _ => hbd _ hx, fun _ => hbd _ hy, mult_of, mult_of, fun _ => ?_⟩
  · rw [hlen] at hj
    rw [hwd]
    show (List.getD (rowsB _ _ _ _ _) j _).size = _ ∧ okR (List.getD (rowsB _ _ _ _ _) j _) = true
    rw [rowsB_at hj]
    exact ⟨rowB_size, rowB_ok⟩
  · obtain ⟨a1, k1⟩ := hb.l; obtain ⟨a2, k2⟩ := hb.r; obtain ⟨a3, k3⟩ := hb.b; obtain ⟨a4, k4⟩ := hb.t
    have i1 := hb.in_ _ _ k1; have i2 := hb.in_ _ _ k2; have i3 := hb.in_ _ _ k3; have i4 := hb.in_ _ _ k4
    unfold tightB
    simp only [Bool.and_eq_true, List.any_eq_true, List.mem_range, hlen, hwd]
    refine ⟨⟨⟨(a3 - x0).toNat, by omega, ?_⟩, ⟨(a4 - x0).toNat, by omega, ?_⟩⟩, ⟨(a1 - y0).toNat, by omega, ?_⟩, ⟨(a2 - y0).toNat, by omega, ?_⟩⟩
    · rw [hbit _ _ (by omega) (by omega), ← k3]; congr 1 <;> omega
    · rw [hbit _ _ (by omega) (by omega), ← k4]; congr 1 <;> omega
    · rw [hbit _ _ (by omega) (by omega), ← k1]; congr 1 <;> omega
    · rw [hbit _ _ (by omega) (by omega), ← k2]; congr 1 <;> omega
/-- cells of a set whose columns and rows are in range: right, or too many -/
theorem IsCells.range {step : Int} {S : Int → Int → Bool} {c : Cel} {e : Int} (h : IsCells step S c e) (hs : stepB step = false) (hb : ∀ x y, S x y = true → (-2000000 ≤ x * step ∧ x * step ≤ 2000000) ∧ -2000000 ≤ y * step ∧ y * step ≤ 2000000) : e = 0 ∨ e = 12 := by
  rcases h with ⟨-, -, h⟩ | ⟨x0, y0, x1, y1, hB, h⟩
  · exact .inl h
  · obtain ⟨a1, k1⟩ := hB.l; obtain ⟨a3, k3⟩ := hB.b
    have i1 := hb _ _ k1; have i3 := hb _ _ k3
    rcases h with ⟨h, -, h2⟩ | ⟨h1, ⟨-, -, h⟩ | ⟨h, -⟩⟩
    · exact .inr h2
    · exact .inl h
    · exact absurd (cells_ok.2 (mk_ok2 hB hs (by omega) (by omega) i1.1 i3.2)) h
end Go.Bl
