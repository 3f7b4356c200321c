/- Contracts of functions that this seat's laws reach, each: what one call returns and what it leaves in memory; no condition beyond each theorem's own hypotheses. -/
import Derived.Test.YtejmbaiioblfeaaGreatDoorZqHulQ
import Derived.Test.YtejmbaiioblfeaaGreatDoorZqRegH
set_option linter.unusedVariables false
set_option linter.unusedSimpArgs false
namespace Go.Bl
open Go

end Go.Bl
namespace Go.Proofs.YtejmbaiioblfeaaGreatDoor
open Go Go.RowKit Go.Bl

def simpS (rs : List (List Pt)) : List (List Pt) := rs.map simpR

theorem mem_sid {rs : List (List Pt)} {s : Sid} (h : s ∈ sidesK rs rs.length) : ∃ i k, i < rs.length ∧ k < (rs.getD i []).length ∧ s = ⟨i, cor (rs.getD i []) k, cor (rs.getD i []) (k + 1)⟩ := by
  unfold sidesK at h
  obtain ⟨l, h1, h2⟩ := List.mem_flatten.1 h
  obtain ⟨i, h3, rfl⟩ := List.mem_map.1 h1
  unfold ringS at h2
  obtain ⟨k, h4, rfl⟩ := List.mem_map.1 h2
  exact ⟨i, k, List.mem_range.1 h3, List.mem_range.1 h4, rfl⟩
/-- no two rings have a point in common -/
def Apart (rs : List (List Pt)) : Prop := ∀ i j, i < rs.length → j < rs.length → i ≠ j → ∀ a b, meetM (cor (rs.getD i []) a) (cor (rs.getD i []) (a + 1)) (cor (rs.getD j []) b) (cor (rs.getD j []) (b + 1)) = false

theorem pairs_of {rs : List (List Pt)} (h : Apart rs) : pairsM (sidesK rs rs.length) = false := by
  rw [Bool.eq_false_iff]
  intro hp
  obtain ⟨x, hx, y, hy, ht⟩ := pairsM_iff.1 hp
  obtain ⟨i, a, hi, _, rfl⟩ := mem_sid hx
  obtain ⟨j, b, hj, _, rfl⟩ := mem_sid hy
  unfold tstS at ht
  rw [Bool.and_eq_true, bne_iff_ne] at ht
  have := h i j hi hj (fun e => ht.1 (by rw [e])) a b
  rw [this] at ht
  cases ht.2

theorem scanN_null {f : Nat → Int} : ∀ {n : Nat}, (∀ k, k < n → f k = 0) → scanN f n = 0
  | 0, _ => rfl
  | n + 1, h => by
    unfold scanN
    rw [if_pos (scanN_null fun k hk => h k (by omega)), h n (by omega)]

structure ROk2 (rs : List (List Pt)) : Prop where
  few : rs.length ≤ 100
  flat : (flatK rs rs.length).length ≤ 2000
  ring : ∀ r ∈ rs, ringF r = 0
  apart : Apart rs

theorem of_rok2 {rs : List (List Pt)} (h : ROk2 rs) : regF rs = 0 := by
  unfold regF
  have h1 := h.few
  have h2 := h.flat
  rw [if_neg (by omega), scanN_null (fun k hk => ?_), if_neg (by simp), pairs_of h.apart]
  · rfl
  · rw [List.getD_eq_getElem?_getD, List.getElem?_eq_getElem hk, Option.getD_some]; exact h.ring _ (List.getElem_mem hk)

end Go.Proofs.YtejmbaiioblfeaaGreatDoor
