/- Contracts of functions that this seat's laws reach, each: what one call returns and what it leaves in memory; no condition beyond each theorem's own hypotheses. -/
import Derived.Test.YtejmbaiioblfeaaGreatDoorZqFarmData
import Derived.Test.YtejmbaiioblfeaaGreatDoorZqNestCat
set_option linter.unusedVariables false
set_option linter.unusedSimpArgs false
namespace Go.Bl
open Go

def memI (T : List Int) (x : Int) : Bool := decide (x ∈ T)
/-- the fault of a plan's jobs (as one list) of n jobs, behind some -/
def planIn (n : Nat) (seen : List Int) : List Int → Int
  | [] => if seen.length < n then 8 else 0
  | k :: r => if k < 0 ∨ (n : Int) ≤ k then 1 else if memI seen k then 6 else planIn n (seen ++ [k]) r

def planK (n : Nat) (L : List Int) (k : Nat) : Int := planIn n (L.take k) (L.drop k)

theorem planK_step {n : Nat} {L : List Int} {k : Nat} (h : k < L.length) : planK n L k = if L[k] < 0 ∨ (n : Int) ≤ L[k] then 1 else if memI (L.take k) L[k] then 6 else planK n L (k + 1) := by
  unfold planK
  rw [List.drop_eq_getElem_cons h, List.take_succ_eq_append_getElem h]
  rfl

theorem planK_end {n : Nat} {L : List Int} : planK n L L.length = if L.length < n then 8 else 0 := by unfold planK; rw [List.drop_length, List.take_length]; rfl

def planF (p : List Prn) (j : List Jb) (plan : List (List Int)) : Int :=
  if farmF p j ≠ 0 then farmF p j else if plan.length ≠ p.length then 3 else planK j.length plan.flatten 0

def seenN (n : Nat) (T : List Int) : List Bool := (List.range n).map fun (i : Nat) => memI T (i : Int)

theorem seenN_len (n : Nat) (T : List Int) : (seenN n T).length = n := by simp [seenN]

theorem seenN_get {n : Nat} {T : List Int} {i : Nat} (h : i < (seenN n T).length) : (seenN n T)[i] = memI T (i : Int) := by simp [seenN]

theorem seenN_nil (n : Nat) : seenN n [] = List.replicate n false := by
  apply List.ext_getElem <;> simp [seenN, memI]

theorem memI_snoc (T : List Int) (x y : Int) : memI (T ++ [x]) y = (memI T y || decide (y = x)) := by
  unfold memI; rw [Bool.eq_iff_iff]; simp

theorem seenN_set {n : Nat} {T : List Int} {k : Nat} (h : k < T.length) {i : Nat} (hi : T[k] = (i : Int)) : seenN n (T.take (k + 1)) = (seenN n (T.take k)).set i true := by
  apply List.ext_getElem
  · simp [seenN]
  · intro j h1 h2
    rw [List.getElem_set, seenN_get, List.take_succ_eq_append_getElem h, memI_snoc, hi]
    by_cases hj : i = j
    · subst hj; simp
    · rw [if_neg hj, seenN_get]
      have : ¬ ((j : Int) = (i : Int)) := by omega
      simp [this]
/-- as many are seen as there are, where none is seen twice -/
theorem seenN_count {n : Nat} {L : List Int} : ∀ {k : Nat}, k ≤ L.length → (∀ i (h : i < L.length), i < k → 0 ≤ L[i] ∧ L[i] < n ∧ memI (L.take i) L[i] = false) → (seenN n (L.take k)).count true = k
  | 0, _, _ => by
    rw [List.take_zero, seenN_nil, List.count_replicate]; simp
  | k + 1, hk, h => by
    obtain ⟨h0, h1, h2⟩ := h k (by omega) (by omega)
    obtain ⟨i, hi⟩ : ∃ i : Nat, L[k] = (i : Int) := ⟨L[k].toNat, by omega⟩
    have ih := seenN_count (n := n) (L := L) (k := k) (by omega) (fun i hh hlt => h i hh (by omega))
    have hin : i < (seenN n (L.take k)).length := by rw [seenN_len]; omega
    rw [seenN_set (by omega) hi, List.count_set (h := hin), ih, seenN_get, ← hi, h2]
    simp
/-- all are seen just if there are enough -/
theorem seenN_all {n : Nat} {L : List Int} (h : ∀ i (hh : i < L.length), 0 ≤ L[i] ∧ L[i] < n ∧ memI (L.take i) L[i] = false) : (seenN n L).contains false = decide (L.length < n) := by
  have hc := seenN_count (n := n) (L := L) (Nat.le_refl _) (fun i hh _ => h i hh)
  rw [List.take_length] at hc
  have hl := seenN_len n L
  have hle := List.count_le_length (a := true) (l := seenN n L)
  by_cases hlt : L.length < n
  · rw [decide_eq_true hlt]
    rcases hcf : (seenN n L).contains false with _ | _
    · exfalso
      have : (seenN n L).count true = (seenN n L).length := by
        rw [List.count_eq_length]
        intro b hb
        cases b
        · have := List.contains_iff_mem.2 hb; rw [hcf] at this; cases this
        · rfl
      omega
    · rfl
  · rw [decide_eq_false hlt]
    rcases hcf : (seenN n L).contains false with _ | _
    · rfl
    · exfalso
      have hm := List.contains_iff_mem.1 hcf
      have : (seenN n L).count true = (seenN n L).length := by omega
      rw [List.count_eq_length] at this
      have := this _ hm
      cases this

theorem flat_get {ls : List (List Int)} {k m : Nat} (hk : k < ls.length) (hm : m < ls[k].length) : ∃ h : (flatK ls k).length + m < ls.flatten.length, ls.flatten[(flatK ls k).length + m] = ls[k][m] := by
  have e : ls.flatten = flatK ls k ++ (ls[k] ++ (ls.drop (k + 1)).flatten) := by
    unfold flatK
    conv => lhs; rw [← List.take_append_drop k ls, List.flatten_append, List.drop_eq_getElem_cons hk, List.flatten_cons]
  refine ⟨by rw [e]; simp; omega, ?_⟩
  simp only [e]
  rw [List.getElem_append_right (by omega)]
  simp only [Nat.add_sub_cancel_left]
  rw [List.getElem_append_left hm]

end Go.Bl
