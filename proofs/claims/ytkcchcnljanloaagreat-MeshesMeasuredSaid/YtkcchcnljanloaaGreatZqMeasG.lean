/- Contracts of functions that this seat's laws reach, each: what one call returns and what it leaves in memory; no condition beyond each theorem's own hypotheses. -/
import Derived.Test.YtkcchcnljanloaaGreatZqMeasF
import Derived.Test.YtkcchcnljanloaaGreatZqJm
import Derived.Test.YtkcchcnljanloaaGreatShelf
import Derived.Deep.DeepCutAuto
set_option linter.unusedVariables false
set_option linter.unusedSimpArgs false
namespace Go.Proofs.YtkcchcnljanloaaGreat
open Go Go.RowKit Go.Bl

theorem sl_cellsI {w : World} {lo : Nat} {A : Option Addr} {l : List Int} (h : Sl w lo A l) (h0 : l ≠ []) : ∃ b o, A = some ⟨b, o, none⟩ ∧ ∀ j, j < l.length → w.cell? ⟨b, o + j, none⟩ = some (.int .i64 (l.getD j 0)) := by
  obtain ⟨b, o, c1, hA, -, -, -, -⟩ := h.at_ (by decide) (k := 0) (List.length_pos_iff.2 h0)
  refine ⟨b, o, hA, fun j hj => ?_⟩
  obtain ⟨b2, o2, c2, hA2, -, -, hcr, hc⟩ := h.at_ (by decide) hj
  have hcr : c2 = [.int .i64 l[j]] := hcr
  subst hcr
  rw [hA] at hA2
  injection hA2 with e
  injection e with e1 e2
  subst e1 e2
  have := hc 0 _ rfl
  rw [show Enc.sz Int = 1 from rfl, Nat.mul_one, Nat.add_zero] at this
  rw [this, List.getD_eq_getElem?_getD, List.getElem?_eq_getElem hj, Option.getD_some]

theorem min_least : ∀ (zs : List Int) (k : Nat), 0 < k → k ≤ zs.length → LeastI (zs.take k) (Lib.minOf (zs.take k))
  | zs, 1, _, hk => by
    rw [Lib.minOf_one]
    obtain ⟨z, r, rfl⟩ := List.exists_cons_of_ne_nil (List.length_pos_iff.1 (show 0 < zs.length by omega))
    exact LeastI.one z
  | zs, k + 2, _, hk => by
    have ih := min_least zs (k + 1) (by omega) (by omega)
    rw [Lib.minOf_step zs (k + 1) (by omega) (by omega), List.take_succ_eq_append_getElem (show k + 1 < zs.length by omega), List.getD_eq_getElem?_getD, List.getElem?_eq_getElem (show k + 1 < zs.length by omega), Option.getD_some]
    exact ih.snoc

theorem max_most : ∀ (zs : List Int) (k : Nat), 0 < k → k ≤ zs.length → MostI (zs.take k) (Lib.maxOf (zs.take k))
  | zs, 1, _, hk => by
    rw [Lib.maxOf_one]
    obtain ⟨z, r, rfl⟩ := List.exists_cons_of_ne_nil (List.length_pos_iff.1 (show 0 < zs.length by omega))
    exact MostI.one z
  | zs, k + 2, _, hk => by
    have ih := max_most zs (k + 1) (by omega) (by omega)
    rw [Lib.maxOf_step zs (k + 1) (by omega) (by omega), List.take_succ_eq_append_getElem (show k + 1 < zs.length by omega), List.getD_eq_getElem?_getD, List.getElem?_eq_getElem (show k + 1 < zs.length by omega), Option.getD_some]
    exact ih.snoc

theorem minL_any (A : Option Addr) (c : Nat) (l : List Int) (w : World) (h : Sl w 0 A l) (h0 : l ≠ []) :
    Calls Tryz.prog 49 #[.slice A l.length c] w fun e w' => ∃ n, e = .returned (.int .i64 n) ∧ LeastI l n ∧ w' = w := by
  obtain ⟨b, o, rfl, hc⟩ := sl_cellsI h h0
  have hm := h.1
  unfold maxLen at hm
  have hp := List.length_pos_iff.2 h0
  refine (Tryz.slices_Min_int b o l.length c l w hp (Nat.le_refl _) (by omega) hc).mono ?_
  rintro e w' ⟨rfl, rfl⟩
  have := min_least l l.length hp (Nat.le_refl _)
  rw [List.take_length] at this ⊢
  exact ⟨_, rfl, this, rfl⟩

theorem maxL_any (A : Option Addr) (c : Nat) (l : List Int) (w : World) (h : Sl w 0 A l) (h0 : l ≠ []) :
    Calls Tryz.prog 50 #[.slice A l.length c] w fun e w' => ∃ n, e = .returned (.int .i64 n) ∧ MostI l n ∧ w' = w := by
  obtain ⟨b, o, rfl, hc⟩ := sl_cellsI h h0
  have hm := h.1
  unfold maxLen at hm
  have hp := List.length_pos_iff.2 h0
  refine (Tryz.slices_Max_int b o l.length c l w hp (Nat.le_refl _) (by omega) hc).mono ?_
  rintro e w' ⟨rfl, rfl⟩
  have := max_most l l.length hp (Nat.le_refl _)
  rw [List.take_length] at this ⊢
  exact ⟨_, rfl, this, rfl⟩

def cor3 (vs : List V3) (f : Fc) : List V3 := [atV vs f.a, atV vs f.b, atV vs f.c]

def cornK (vs : List V3) (fs : List Fc) (k j : Nat) : List V3 := cornV vs (fs.take k) ++ (cor3 vs (fs.getD k default)).take j

def Dj (A B : Option Addr) : Prop := ∀ g, blk A = some g → blk B ≠ some g

theorem Dj.symm {A B : Option Addr} (h : Dj A B) : Dj B A := fun g h1 h2 => h g h2 h1

theorem Dj.grew {A A' B : Option Addr} {w w' : World} (h : Dj A B) (hG : Grew A A' w w') (hB : ∀ g, blk B = some g → g < w.heap.size) : Dj A' B := fun g h1 h2 => by
  rcases hG.2 with q | q
  · rw [q] at h1; exact h g h1 h2
  · rw [q] at h1; injection h1 with h1; have := hB g h2; omega

theorem Dj.nil (B : Option Addr) : Dj none B := fun g h => by cases h

end Go.Proofs.YtkcchcnljanloaaGreat
