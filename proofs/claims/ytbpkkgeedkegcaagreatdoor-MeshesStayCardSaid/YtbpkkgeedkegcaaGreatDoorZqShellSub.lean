/- Contracts of functions that this seat's laws reach, each: what one call returns and what it leaves in memory; no condition beyond each theorem's own hypotheses. -/
import Derived.Test.YtbpkkgeedkegcaaGreatDoorZqGpLib
import Derived.Test.YtbpkkgeedkegcaaGreatDoorZqMeshTB
set_option linter.unusedVariables false
set_option linter.unusedSimpArgs false
namespace Go.Proofs.YtbpkkgeedkegcaaGreatDoor
open Go Go.RowKit Go.Bl

theorem nodup_map_on {α β : Type} (f : α → β) {l : List α} (hn : l.Nodup) (hf : ∀ x ∈ l, ∀ y ∈ l, f x = f y → x = y) : (l.map f).Nodup := by
  induction l with
  | nil => simp
  | cons x l ih =>
    obtain ⟨h1, h2⟩ := List.nodup_cons.1 hn
    rw [List.map_cons, List.nodup_cons]
    refine ⟨fun h => ?_, ih h2 fun a ha b hb => hf a (List.mem_cons_of_mem _ ha) b (List.mem_cons_of_mem _ hb)⟩
    obtain ⟨y, hy, e⟩ := List.mem_map.1 h
    have := hf y (List.mem_cons_of_mem _ hy) x (List.mem_cons_self ..) e
    exact h1 (this ▸ hy)

theorem faceF_iff {vs : List V3} {f : Fc} : faceF vs f = 0 ↔ inF vs.length f = true ∧ normV vs f ≠ ⟨0, 0, 0⟩ := by
  unfold faceF
  by_cases h1 : inF vs.length f = true
  · rw [if_pos h1]
    by_cases h2 : normV vs f = ⟨0, 0, 0⟩
    · rw [if_pos h2]; simp [h2]
    · rw [if_neg h2]; simp [h1, h2]
  · rw [if_neg h1]; simp [h1]

def volS (vs : List V3) (fs : List Fc) : Int := (fs.map (partV vs)).sum

end Go.Proofs.YtbpkkgeedkegcaaGreatDoor

namespace Go.Proofs.YtbpkkgeedkegcaaGreatDoor
open Go Go.RowKit Go.Bl

theorem fcAt_get {fs : List Fc} {k : Nat} (h : k < fs.length) : fcAt fs k = fs[k] := by unfold fcAt; rw [List.getD_eq_getElem?_getD, List.getElem?_eq_getElem h, Option.getD_some]

theorem allS_sub {a b : List Fc} (h : a.Sublist b) : (allS a).Sublist (allS b) := by
  induction h with
  | slnil => exact .slnil
  | cons x _ ih => exact ih.trans (List.sublist_append_right _ _)
  | cons_cons x _ ih => exact (List.Sublist.refl (sdsOf x)).append ih

theorem allS_sub_nodup {fs : List Fc} (hn : (allS fs).Nodup) {g : List Nat} (hg : ∀ k ∈ g, k < fs.length) (hs : g.Pairwise (· < ·)) : (allS (g.map (fcAt fs))).Nodup := by
  have hsub : (g.map (fcAt fs)).Sublist fs := by
    have h1 : g.Sublist (List.range fs.length) := by
      have e : g = (List.range fs.length).filter (fun k => decide (k ∈ g)) := by
        refine List.Perm.eq_of_pairwise (le := fun a b : Nat => a ≤ b) (fun a b _ _ h1 h2 => Nat.le_antisymm h1 h2) (hs.imp fun h => Nat.le_of_lt h) ((List.pairwise_lt_range.filter _).imp fun h => Nat.le_of_lt h) ?_
        refine (List.perm_ext_iff_of_nodup (hs.imp fun h => Nat.ne_of_lt h) (List.nodup_range.filter _)).2 fun k => ?_
        rw [List.mem_filter, List.mem_range, decide_eq_true_eq]
        exact ⟨fun h => ⟨hg k h, h⟩, fun h => h.2⟩
      rw [e]
      exact List.filter_sublist
    have h2 := h1.map (fcAt fs)
    have e : (List.range fs.length).map (fcAt fs) = fs := by
      apply List.ext_getElem
      · simp
      · intro k h1 h2
        simp only [List.getElem_map, List.getElem_range]
        exact fcAt_get h2
    rwa [e] at h2
  have : (allS (g.map (fcAt fs))).Sublist (allS fs) := by
    exact allS_sub hsub
  exact hn.sublist this

end Go.Proofs.YtbpkkgeedkegcaaGreatDoor
