/- Contracts of functions that this seat's laws reach, each: what one call returns and what it leaves in memory; no condition beyond each theorem's own hypotheses. -/
import Derived.Test.YtejmbaiioblfeaaGreatDoorZqNzD
import Derived.Test.YtejmbaiioblfeaaGreatDoorZqRegH
set_option linter.unusedVariables false
set_option linter.unusedSimpArgs false
namespace Go.Bl
open Go

end Go.Bl
namespace Go.Proofs.YtejmbaiioblfeaaGreatDoor
open Go Go.RowKit Go.Bl

def simpS (rs : List (List Pt)) : List (List Pt) := rs.map simpR

theorem sid_mem {rs : List (List Pt)} {i k : Nat} (hi : i < rs.length) (hk : k < (rs.getD i []).length) : (⟨i, cor (rs.getD i []) k, cor (rs.getD i []) (k + 1)⟩ : Sid) ∈ sidesK rs rs.length := by
  unfold sidesK
  refine List.mem_flatten.2 ⟨_, List.mem_map.2 ⟨i, List.mem_range.2 hi, rfl⟩, ?_⟩
  unfold ringS
  exact List.mem_map.2 ⟨k, List.mem_range.2 hk, rfl⟩

theorem mem_sid {rs : List (List Pt)} {s : Sid} (h : s ∈ sidesK rs rs.length) : ∃ i k, i < rs.length ∧ k < (rs.getD i []).length ∧ s = ⟨i, cor (rs.getD i []) k, cor (rs.getD i []) (k + 1)⟩ := by
  unfold sidesK at h
  obtain ⟨l, h1, h2⟩ := List.mem_flatten.1 h
  obtain ⟨i, h3, rfl⟩ := List.mem_map.1 h1
  unfold ringS at h2
  obtain ⟨k, h4, rfl⟩ := List.mem_map.1 h2
  exact ⟨i, k, List.mem_range.1 h3, List.mem_range.1 h4, rfl⟩
/-- no two rings have a point in common -/
def Apart (rs : List (List Pt)) : Prop := ∀ i j, i < rs.length → j < rs.length → i ≠ j → ∀ a b, meetM (cor (rs.getD i []) a) (cor (rs.getD i []) (a + 1)) (cor (rs.getD j []) b) (cor (rs.getD j []) (b + 1)) = false

theorem apart_of {rs : List (List Pt)} (h : pairsM (sidesK rs rs.length) = false) (hn : ∀ r ∈ rs, 0 < r.length) : Apart rs := by
  intro i j hi hj hne a b
  have hp : ∀ i, i < rs.length → 0 < (rs.getD i []).length := fun i hi => by
    rw [List.getD_eq_getElem?_getD, List.getElem?_eq_getElem hi, Option.getD_some]; exact hn _ (List.getElem_mem hi)
  have ha := Nat.mod_lt a (hp i hi)
  have hb := Nat.mod_lt b (hp j hj)
  have h1 := sid_mem hi ha
  have h2 := sid_mem hj hb
  have e0 := cor_mm (rs.getD i []) a 0
  have e1 := cor_mm (rs.getD i []) a 1
  have e2 := cor_mm (rs.getD j []) b 0
  have e3 := cor_mm (rs.getD j []) b 1
  simp only [Nat.add_zero] at e0 e2
  rw [e0, e1] at h1
  rw [e2, e3] at h2
  rw [Bool.eq_false_iff]
  intro hm
  rw [Bool.eq_false_iff] at h
  refine h (pairsM_iff.2 ⟨_, h1, _, h2, ?_⟩)
  unfold tstS
  rw [Bool.and_eq_true]
  exact ⟨by rw [bne_iff_ne]; simp only [ne_eq]; omega, hm⟩

theorem pairs_of {rs : List (List Pt)} (h : Apart rs) : pairsM (sidesK rs rs.length) = false := by
  rw [Bool.eq_false_iff]
  intro hp
  obtain ⟨x, hx, y, hy, ht⟩ := pairsM_iff.1 hp
  obtain ⟨i, a, hi, _, rfl⟩ := mem_sid hx
  obtain ⟨j, b, hj, _, rfl⟩ := mem_sid hy
  unfold tstS at ht
  rw [Bool.and_eq_true, bne_iff_ne] at ht
  have := h i j hi hj (fun e => ht.1 (by rw [e])) a b
  rw [this] at ht
  cases ht.2

theorem scanN_null {f : Nat → Int} : ∀ {n : Nat}, (∀ k, k < n → f k = 0) → scanN f n = 0
  | 0, _ => rfl
  | n + 1, h => by
    unfold scanN
    rw [if_pos (scanN_null fun k hk => h k (by omega)), h n (by omega)]

structure ROk2 (rs : List (List Pt)) : Prop where
  few : rs.length ≤ 100
  flat : (flatK rs rs.length).length ≤ 2000
  ring : ∀ r ∈ rs, ringF r = 0
  apart : Apart rs

theorem rok2_of {rs : List (List Pt)} (h : regF rs = 0) : ROk2 rs := by
  unfold regF at h
  by_cases h1 : 100 < rs.length ∨ 2000 < (flatK rs rs.length).length
  · rw [if_pos h1] at h; cases h
  · rw [if_neg h1] at h
    by_cases h2 : scanN (fun k => ringF (rs.getD k [])) rs.length = 0
    · rw [if_neg (fun k => k h2)] at h
      have hr : ∀ r ∈ rs, ringF r = 0 := fun r hm => by
        obtain ⟨k, hk, rfl⟩ := List.mem_iff_getElem.1 hm
        have := scanN_zero' h2 k hk
        rw [List.getD_eq_getElem?_getD, List.getElem?_eq_getElem hk, Option.getD_some] at this
        exact this
      refine ⟨by omega, by omega, hr, apart_of ?_ (fun r hm => by have := (ringF_ok (hr r hm)).1; omega)⟩
      by_cases h3 : pairsM (sidesK rs rs.length) = true
      · rw [if_pos h3] at h; cases h
      · simpa using h3
    · rw [if_pos h2] at h; exact absurd h h2

theorem of_rok2 {rs : List (List Pt)} (h : ROk2 rs) : regF rs = 0 := by
  unfold regF
  have h1 := h.few
  have h2 := h.flat
  rw [if_neg (by omega), scanN_null (fun k hk => ?_), if_neg (by simp), pairs_of h.apart]
  · rfl
  · rw [List.getD_eq_getElem?_getD, List.getElem?_eq_getElem hk, Option.getD_some]; exact h.ring _ (List.getElem_mem hk)

theorem ring_at {rs : List (List Pt)} (h : ROk2 rs) {i : Nat} (hi : i < rs.length) : ringF (rs.getD i []) = 0 := by
  rw [List.getD_eq_getElem?_getD, List.getElem?_eq_getElem hi, Option.getD_some]; exact h.ring _ (List.getElem_mem hi)

/-- who is in another ring stays so along a ring -/
theorem isIn_along {rs : List (List Pt)} (h : ROk2 rs) {i k : Nat} (hi : i < rs.length) (hk : k < rs.length) (hne : i ≠ k) : ∀ j, isInF (rs.getD k []) (cor (rs.getD i []) j) = isInF (rs.getD k []) (cor (rs.getD i []) 0)
  | 0 => rfl
  | j + 1 => by
    rw [← isIn_along h hi hk hne j]
    exact (isIn_way fun m _ => h.apart k i hk hi (Ne.symm hne) m j).symm

end Go.Proofs.YtejmbaiioblfeaaGreatDoor
