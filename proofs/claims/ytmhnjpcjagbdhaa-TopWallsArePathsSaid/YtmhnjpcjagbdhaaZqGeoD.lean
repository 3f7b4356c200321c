/- Contracts of functions that this seat's laws reach, each: what one call returns and what it leaves in memory; no condition beyond each theorem's own hypotheses. -/
import Derived.Test.YtmhnjpcjagbdhaaZqGeoC
import Derived.Test.YtmhnjpcjagbdhaaZqRegH
set_option linter.unusedVariables false
set_option linter.unusedSimpArgs false
namespace Go.Bl
open Go

end Go.Bl
namespace Go.Proofs.Ytmhnjpcjagbdhaa
open Go Go.RowKit Go.Bl

def simpS (rs : List (List Pt)) : List (List Pt) := rs.map simpR

theorem simp_nil : simpR [] = [] := rfl

theorem simpS_getD (rs : List (List Pt)) (i : Nat) : (simpS rs).getD i [] = simpR (rs.getD i []) := by
  unfold simpS
  rw [List.getD_eq_getElem?_getD, List.getD_eq_getElem?_getD, List.getElem?_map]
  cases rs[i]? with
  | none => exact simp_nil.symm
  | some r => rfl

theorem simpS_len (rs : List (List Pt)) : (simpS rs).length = rs.length := by unfold simpS; rw [List.length_map]

theorem sid_mem {rs : List (List Pt)} {i k : Nat} (hi : i < rs.length) (hk : k < (rs.getD i []).length) : (⟨i, cor (rs.getD i []) k, cor (rs.getD i []) (k + 1)⟩ : Sid) ∈ sidesK rs rs.length := by
  unfold sidesK
  refine List.mem_flatten.2 ⟨_, List.mem_map.2 ⟨i, List.mem_range.2 hi, rfl⟩, ?_⟩
  unfold ringS
  exact List.mem_map.2 ⟨k, List.mem_range.2 hk, rfl⟩

theorem mem_sid {rs : List (List Pt)} {s : Sid} (h : s ∈ sidesK rs rs.length) : ∃ i k, i < rs.length ∧ k < (rs.getD i []).length ∧ s = ⟨i, cor (rs.getD i []) k, cor (rs.getD i []) (k + 1)⟩ := by
  unfold sidesK at h
  obtain ⟨l, h1, h2⟩ := List.mem_flatten.1 h
  obtain ⟨i, h3, rfl⟩ := List.mem_map.1 h1
  unfold ringS at h2
  obtain ⟨k, h4, rfl⟩ := List.mem_map.1 h2
  exact ⟨i, k, List.mem_range.1 h3, List.mem_range.1 h4, rfl⟩
/-- no two rings have a point in common -/
def Apart (rs : List (List Pt)) : Prop := ∀ i j, i < rs.length → j < rs.length → i ≠ j → ∀ a b, meetM (cor (rs.getD i []) a) (cor (rs.getD i []) (a + 1)) (cor (rs.getD j []) b) (cor (rs.getD j []) (b + 1)) = false

theorem apart_of {rs : List (List Pt)} (h : pairsM (sidesK rs rs.length) = false) (hn : ∀ r ∈ rs, 0 < r.length) : Apart rs := by
  intro i j hi hj hne a b
  have hp : ∀ i, i < rs.length → 0 < (rs.getD i []).length := fun i hi => by
    rw [List.getD_eq_getElem?_getD, List.getElem?_eq_getElem hi, Option.getD_some]; exact hn _ (List.getElem_mem hi)
  have ha := Nat.mod_lt a (hp i hi)
  have hb := Nat.mod_lt b (hp j hj)
  have h1 := sid_mem hi ha
  have h2 := sid_mem hj hb
  have e0 := cor_mm (rs.getD i []) a 0
  have e1 := cor_mm (rs.getD i []) a 1
  have e2 := cor_mm (rs.getD j []) b 0
  have e3 := cor_mm (rs.getD j []) b 1
  simp only [Nat.add_zero] at e0 e2
  rw [e0, e1] at h1
  rw [e2, e3] at h2
  rw [Bool.eq_false_iff]
  intro hm
  rw [Bool.eq_false_iff] at h
  refine h (pairsM_iff.2 ⟨_, h1, _, h2, ?_⟩)
  unfold tstS
  rw [Bool.and_eq_true]
  exact ⟨by rw [bne_iff_ne]; simp only [ne_eq]; omega, hm⟩

theorem pairs_of {rs : List (List Pt)} (h : Apart rs) : pairsM (sidesK rs rs.length) = false := by
  rw [Bool.eq_false_iff]
  intro hp
  obtain ⟨x, hx, y, hy, ht⟩ := pairsM_iff.1 hp
  obtain ⟨i, a, hi, _, rfl⟩ := mem_sid hx
  obtain ⟨j, b, hj, _, rfl⟩ := mem_sid hy
  unfold tstS at ht
  rw [Bool.and_eq_true, bne_iff_ne] at ht
  have := h i j hi hj (fun e => ht.1 (by rw [e])) a b
  rw [this] at ht
  cases ht.2

theorem scanN_null {f : Nat → Int} : ∀ {n : Nat}, (∀ k, k < n → f k = 0) → scanN f n = 0
  | 0, _ => rfl
  | n + 1, h => by
    unfold scanN
    rw [if_pos (scanN_null fun k hk => h k (by omega)), h n (by omega)]

structure ROk2 (rs : List (List Pt)) : Prop where
  few : rs.length ≤ 100
  flat : (flatK rs rs.length).length ≤ 2000
  ring : ∀ r ∈ rs, ringF r = 0
  apart : Apart rs

theorem rok2_of {rs : List (List Pt)} (h : regF rs = 0) : ROk2 rs := by
  unfold regF at h
  by_cases h1 : 100 < rs.length ∨ 2000 < (flatK rs rs.length).length
  · rw [if_pos h1] at h; cases h
  · rw [if_neg h1] at h
    by_cases h2 : scanN (fun k => ringF (rs.getD k [])) rs.length = 0
    · rw [if_neg (fun k => k h2)] at h
      have hr : ∀ r ∈ rs, ringF r = 0 := fun r hm => by
        obtain ⟨k, hk, rfl⟩ := List.mem_iff_getElem.1 hm
        have := scanN_zero' h2 k hk
        rw [List.getD_eq_getElem?_getD, List.getElem?_eq_getElem hk, Option.getD_some] at this
        exact this
      refine ⟨by omega, by omega, hr, apart_of ?_ (fun r hm => by have := (ringF_ok (hr r hm)).1; omega)⟩
      by_cases h3 : pairsM (sidesK rs rs.length) = true
      · rw [if_pos h3] at h; cases h
      · simpa using h3
    · rw [if_pos h2] at h; exact absurd h h2

theorem of_rok2 {rs : List (List Pt)} (h : ROk2 rs) : regF rs = 0 := by
  unfold regF
  have h1 := h.few
  have h2 := h.flat
  rw [if_neg (by omega), scanN_null (fun k hk => ?_), if_neg (by simp), pairs_of h.apart]
  · rfl
  · rw [List.getD_eq_getElem?_getD, List.getElem?_eq_getElem hk, Option.getD_some]; exact h.ring _ (List.getElem_mem hk)

theorem ring_at {rs : List (List Pt)} (h : ROk2 rs) {i : Nat} (hi : i < rs.length) : ringF (rs.getD i []) = 0 := by
  rw [List.getD_eq_getElem?_getD, List.getElem?_eq_getElem hi, Option.getD_some]; exact h.ring _ (List.getElem_mem hi)

theorem flat_le (rs : List (List Pt)) : (simpS rs).flatten.length ≤ rs.flatten.length := by
  unfold simpS
  induction rs with
  | nil => exact Nat.le_refl _
  | cons r rs ih =>
    rw [List.map_cons, List.flatten_cons, List.flatten_cons, List.length_append, List.length_append]
    have := (simp_len r).2
    omega

theorem simp_rok2 {rs : List (List Pt)} (h : ROk2 rs) : ROk2 (simpS rs) := by
  refine ⟨by rw [simpS_len]; exact h.few, ?_, fun r hm => ?_, ?_⟩
  · have h1 := h.flat
    rw [flatK_all (Nat.le_refl _)] at *
    exact Nat.le_trans (flat_le rs) h1
  · unfold simpS at hm
    obtain ⟨r', h1, rfl⟩ := List.mem_map.1 hm
    exact simp_ok (h.ring r' h1)
  · intro i j hi hj hne a b
    rw [simpS_len] at hi hj
    rw [simpS_getD, simpS_getD]
    have Ri := rr_of (ring_at h hi)
    have Rj := rr_of (ring_at h hj)
    have mi : 0 < (keepI (rs.getD i [])).length := by have := keep3 Ri; omega
    have mj : 0 < (keepI (rs.getD j [])).length := by have := keep3 Rj; omega
    rw [cor_simp mi, cor_simp mi, cor_simp mj, cor_simp mj, Bool.eq_false_iff]
    intro hm
    obtain ⟨k, -, -, hk⟩ := (chain_sg Ri mi a).2.2 _ _ hm
    obtain ⟨k', -, -, hk'⟩ := (chain_sg Rj mj b).2.2 _ _ ((meetM_sym _ _ _ _).1 hk)
    rw [h.apart j i hj hi (Ne.symm hne) k' k] at hk'
    cases hk'
/-- who is in another ring stays so along a ring -/
theorem isIn_along {rs : List (List Pt)} (h : ROk2 rs) {i k : Nat} (hi : i < rs.length) (hk : k < rs.length) (hne : i ≠ k) : ∀ j, isInF (rs.getD k []) (cor (rs.getD i []) j) = isInF (rs.getD k []) (cor (rs.getD i []) 0)
  | 0 => rfl
  | j + 1 => by
    rw [← isIn_along h hi hk hne j]
    exact (isIn_way fun m _ => h.apart k i hk hi (Ne.symm hne) m j).symm

theorem simp_dptK {rs : List (List Pt)} (h : ROk2 rs) {i : Nat} (hi : i < rs.length) : ∀ k, k ≤ rs.length → dptK (simpS rs) i k = dptK rs i k
  | 0, _ => rfl
  | k + 1, hk => by
    have hkl : k < rs.length := by omega
    unfold dptK
    rw [simp_dptK h hi k (by omega), simpS_getD, simpS_getD]
    by_cases e : i = k
    · subst e; simp
    · have mi : 0 < (keepI (rs.getD i [])).length := by have := keep3 (rr_of (ring_at h hi)); omega
      rw [simp_isIn (ring_at h hkl), cor_simp mi, isIn_along h hi hkl e]

theorem simp_areaK {rs : List (List Pt)} (h : ROk2 rs) : ∀ k, k ≤ rs.length → areaK (simpS rs) k = areaK rs k
  | 0, _ => rfl
  | k + 1, hk => by
    have hkl : k < rs.length := by omega
    have e : dptF (simpS rs) k = dptF rs k := by unfold dptF; rw [simpS_len]; exact simp_dptK h hkl _ (Nat.le_refl _)
    unfold areaK
    rw [simp_areaK h k (by omega), e, simpS_getD, simp_dbl (ring_at h hkl)]

theorem simp_areaT {rs : List (List Pt)} (h : regF rs = 0) : regF (simpS rs) = 0 ∧ areaT (simpS rs) = areaT rs := by
  have h1 := rok2_of h
  have h2 := of_rok2 (simp_rok2 h1)
  refine ⟨h2, ?_⟩
  unfold areaT areaF
  rw [if_pos h, if_pos h2, simpS_len]
  exact simp_areaK h1 _ (Nat.le_refl _)

theorem simpS_twice {rs : List (List Pt)} (h : regF rs = 0) : simpS (simpS rs) = simpS rs := by
  have h1 := rok2_of h
  unfold simpS
  rw [List.map_map]
  exact List.map_congr_left fun r hr => simp_simp (h1.ring r hr)

end Go.Proofs.Ytmhnjpcjagbdhaa
