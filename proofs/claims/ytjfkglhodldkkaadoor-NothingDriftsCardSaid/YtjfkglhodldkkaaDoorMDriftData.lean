/- Contracts of functions that this seat's laws reach, each: what one call returns and what it leaves in memory; no condition beyond each theorem's own hypotheses. -/
import Derived.Test.YtjfkglhodldkkaaDoorMFlowJ
import Derived.Test.YtjfkglhodldkkaaDoorMPlanData
set_option linter.unusedVariables false
set_option linter.unusedSimpArgs false
namespace Go.Bl
open Go Go.RowKit

structure DOk (l : List Bead) (area : Int) : Prop where
  len : l.length ≤ 6
  ok : l.all okBead = true
  ar : 1 ≤ area ∧ area ≤ 2405282
theorem dok_fault {l : List Bead} {area : Int} (h : DOk l area) : checkBeads l = 0 ∧ fedFault l = 0 ∧ areaFault l area = 0 := by
  have h1 : checkBeads l = 0 := by unfold checkBeads; rw [if_neg (by have := h.len; omega), if_pos h.ok]
  have hl : l.length ≤ 5000 := by have := h.len; omega
  have hv := vol_bd l h.ok
  have hW := volW_eq l h.ok hl
  have hle := h.len
  have hv2 : ¬ 1000000000000000000 < volW l := by rw [hW]; omega
  refine ⟨h1, ?_, ?_⟩
  · unfold fedFault; rw [if_neg (by simp [h1]), if_neg hv2]
  · unfold areaFault
    have ha := h.ar
    rw [if_neg (by simp [h1]), if_neg (by simp [outB]; omega), if_neg hv2]
theorem dok_take {l : List Bead} {area : Int} (h : DOk l area) (k : Nat) : DOk (l.take k) area := ⟨by rw [List.length_take]; have := h.len; omega, all_take h.ok k, h.ar⟩
theorem dok_vol {l : List Bead} {area : Int} (h : DOk l area) : 0 ≤ vol l ∧ vol l ≤ 1500000000000000 := by
  have hv := vol_bd l h.ok
  have hl := h.len
  omega
theorem dok_volume {l : List Bead} {area : Int} (h : DOk l area) : volumeOf l = vol l := by
  unfold volumeOf
  rw [if_neg (by simp [(dok_fault h).2.1]), volW_eq l h.ok (by have := h.len; omega)]
theorem pos_at {l : List Bead} {area : Int} (h : DOk l area) {k : Nat} (hk : k < (positions l area).length) : (positions l area)[k] = (2 * vol (l.take (k + 1)) + area) / (2 * area) := by
  have e : positions l area = posOf l area l.length := by unfold positions; rw [if_neg (by simp [(dok_fault h).2.2])]
  simp only [e, posOf, List.getElem_map, List.getElem_range]
theorem pos_len {l : List Bead} {area : Int} (h : DOk l area) : (positions l area).length = l.length := by
  unfold positions; rw [if_neg (by simp [(dok_fault h).2.2]), posOf_len]
theorem half_div {v a : Int} (hv : 0 ≤ v) (ha : 1 ≤ a) : ((2 * v + a) / (2 * a)) * a ≤ v + a ∧ 0 ≤ (2 * v + a) / (2 * a) ∧ 2 * (((2 * v + a) / (2 * a)) * a - v) ≤ a ∧ -(2 * (((2 * v + a) / (2 * a)) * a - v)) < a := by
  have h1 := Int.ediv_mul_le (2 * v + a) (show 2 * a ≠ 0 by omega)
  have h2 := Int.lt_ediv_add_one_mul_self (2 * v + a) (show 0 < 2 * a by omega)
  have h3 := Int.ediv_nonneg (show 0 ≤ 2 * v + a by omega) (show 0 ≤ 2 * a by omega)
  generalize (2 * v + a) / (2 * a) = q at *
  have e1 : q * (2 * a) = 2 * (q * a) := by rw [Int.mul_left_comm]
  rw [Int.add_mul, Int.one_mul, e1] at h2
  rw [e1] at h1
  generalize q * a = p at *
  omega
theorem vol_step {l : List Bead} (h : l.all okBead = true) (k : Nat) : vol (l.take k) ≤ vol (l.take (k + 1)) := by
  have := vol_take_le (l.take (k + 1)) (all_take h (k + 1)) k
  rwa [List.take_take, Nat.min_eq_left (by omega)] at this
theorem pos_step {l : List Bead} {area : Int} (h : DOk l area) {k : Nat} (hk : k < (positions l area).length) : 0 ≤ lastI (positions l area) k ∧ lastI (positions l area) k ≤ (positions l area)[k] ∧ (positions l area)[k] ≤ 4000000000000000 := by
  have ha := h.ar
  have hv := dok_vol (dok_take h (k + 1))
  rw [pos_at h hk]
  have h1 := half_div hv.1 ha.1
  have h2 := Int.ediv_le_self (2 * area) (show 0 ≤ 2 * vol (l.take (k + 1)) + area by omega)
  refine ⟨?_, ?_, by omega⟩
  · unfold lastI
    by_cases e : k = 0
    · rw [if_pos e]; omega
    · rw [if_neg e]
      have hk1 : k - 1 < (positions l area).length := by omega
      have := half_div (dok_vol (dok_take h (k - 1 + 1))).1 ha.1
      simp only [List.getD_eq_getElem?_getD, List.getElem?_eq_getElem hk1, Option.getD_some]
      rw [pos_at h hk1]
      exact this.2.1
  · unfold lastI
    by_cases e : k = 0
    · rw [if_pos e]; exact h1.2.1
    · rw [if_neg e]
      have hk1 : k - 1 < (positions l area).length := by omega
      simp only [List.getD_eq_getElem?_getD, List.getElem?_eq_getElem hk1, Option.getD_some]
      rw [pos_at h hk1]
      refine Int.ediv_le_ediv (by omega) ?_
      have := vol_step h.ok k
      rw [show k - 1 + 1 = k by omega]
      omega
theorem am_len {l : List Bead} {area : Int} (h : DOk l area) : (amounts l area).length = l.length := amounts_len (dok_fault h).2.2
theorem am_at {l : List Bead} {area : Int} (h : DOk l area) {k : Nat} (hk : k < (amounts l area).length) (hk2 : k < (positions l area).length) : (amounts l area)[k] = (positions l area)[k] - lastI (positions l area) k ∧ 0 ≤ (amounts l area)[k] ∧ (amounts l area)[k] ≤ 4000000000000000 := by
  have h1 := pos_step h hk2
  have h2 : (amounts l area)[k] = wrap64 ((positions l area)[k] - lastI (positions l area) k) := diff_last (positions_bd (dok_fault h).2.2) hk2
  rw [i64_in (by omega)] at h2
  omega
theorem sum_snoc {l : List Int} {k : Nat} (h : k < l.length) : (l.take (k + 1)).sum = (l.take k).sum + l[k] := by
  rw [take_snoc h, List.sum_append]; simp
theorem am_sum {l : List Bead} {area : Int} (h : DOk l area) : ∀ k, k ≤ (amounts l area).length → ((amounts l area).take k).sum = lastI (positions l area) k
  | 0, _ => by simp [lastI]
  | k + 1, hk => by
    have hk1 : k < (amounts l area).length := by omega
    have hk2 : k < (positions l area).length := by rw [pos_len h, ← am_len h]; exact hk1
    rw [sum_snoc hk1, am_sum h k (by omega), (am_at h hk1 hk2).1, lastI_succ hk2]
    omega
theorem retr_sum (am at_ : List Int) (back : Int) : ∀ k, k ≤ am.length → (retrTo am at_ back k).sum = (am.take k).sum
  | 0, _ => rfl
  | k + 1, hk => by
    rw [retrTo_succ, List.sum_append, retr_sum am at_ back k (by omega), sum_snoc (by omega)]
    have e : am.getD k 0 = am[k] := by simp [List.getD, show k < am.length by omega]
    unfold retrOne
    rw [e]
    split <;> simp <;> omega
theorem retr_count (am at_ : List Int) (back : Int) : ∀ k, (retrTo am at_ back k).length = k + 2 * (seenN k at_).count true
  | 0 => rfl
  | k + 1 => by
    rw [retrTo_succ, List.length_append, retr_count am at_ back k]
    have e : (seenN (k + 1) at_) = seenN k at_ ++ [memI at_ (k : Int)] := by unfold seenN; rw [List.range_succ, List.map_append]; rfl
    rw [e, List.count_append]
    unfold retrOne memB memI
    by_cases hm : (k : Int) ∈ at_ <;> simp [hm] <;> omega
theorem up_not {at_ : List Int} (h : Up at_) {i : Nat} (hi : i < at_.length) : memI (at_.take i) at_[i] = false := by
  unfold memI
  refine decide_eq_false fun hm => ?_
  obtain ⟨k, hk, e⟩ := List.getElem_of_mem hm
  rw [List.length_take] at hk
  rw [List.getElem_take] at e
  have := h k i (by omega) hi (by omega)
  omega
theorem scan_in {nb : Int} : ∀ {l : List Int} {p : Option Int}, scanP nb p l = 0 → ∀ x ∈ l, 0 ≤ x ∧ x ≤ nb - 1
  | [], _, _ => fun x hx => by simp at hx
  | k :: r, p, h => by
    unfold scanP at h
    split at h
    · cases h
    · rename_i h1
      split at h
      · cases h
      · intro x hx
        rcases List.mem_cons.1 hx with rfl | hx
        · exact outB_false (by simpa using h1)
        · exact scan_in h x hx
theorem retr_len {am at_ : List Int} {back : Int} (h : backF am.length back at_ = 0) : (retrTo am at_ back am.length).length = am.length + 2 * at_.length := by
  have hup := (backF_zero h).2.2
  have hin : ∀ x ∈ at_, 0 ≤ x ∧ x ≤ (am.length : Int) - 1 := by
    unfold backF at h
    split at h
    · cases h
    · split at h
      · cases h
      · exact scan_in h
  rw [retr_count]
  have := seenN_count (n := am.length) (L := at_) (Nat.le_refl _) (fun i hi _ => by
    have := hin _ (List.getElem_mem hi)
    exact ⟨this.1, by omega, up_not hup hi⟩)
  rw [List.take_length] at this
  rw [this]
theorem retr_bd {am at_ : List Int} {back B : Int} (hb : 0 ≤ back ∧ back ≤ B) (ha : ∀ x ∈ am, -B ≤ x ∧ x ≤ B) (k : Nat) (hk : k ≤ am.length) : ∀ x ∈ retrTo am at_ back k, -B ≤ x ∧ x ≤ B := by
  intro x hx
  unfold retrTo at hx
  obtain ⟨l, hl, hx⟩ := List.mem_flatten.1 hx
  obtain ⟨i, hi, rfl⟩ := List.mem_map.1 hl
  have hi := List.mem_range.1 hi
  have e : am.getD i 0 = am[i] := by simp [List.getD, show i < am.length by omega]
  unfold retrOne at hx
  rw [e] at hx
  rcases List.mem_append.1 hx with hx | hx
  · split at hx
    · simp at hx; omega
    · simp at hx
  · simp at hx; subst hx; exact ha _ (List.getElem_mem _)
theorem sum_bd {l : List Int} {B : Int} (hB : 0 ≤ B) (h : ∀ x ∈ l, -B ≤ x ∧ x ≤ B) : ∀ k, k ≤ l.length → -(B * k) ≤ (l.take k).sum ∧ (l.take k).sum ≤ B * k
  | 0, _ => by simp
  | k + 1, hk => by
    have ih := sum_bd hB h k (by omega)
    have := h _ (List.getElem_mem (show k < l.length by omega))
    rw [sum_snoc (by omega)]
    rw [show B * ((k + 1 : Nat) : Int) = B * k + B by push_cast; rw [Int.mul_add, Int.mul_one]]
    omega

end Go.Bl
