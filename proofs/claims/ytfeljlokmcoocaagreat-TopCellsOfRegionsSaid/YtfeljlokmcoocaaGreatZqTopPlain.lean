/- Contracts of functions that this seat's laws reach, each: what one call returns and what it leaves in memory; no condition beyond each theorem's own hypotheses. -/
import Derived.Test.YtfeljlokmcoocaaGreatZqDepT
import Derived.Test.YtfeljlokmcoocaaGreatZqFillLaw
import Derived.Test.YtfeljlokmcoocaaGreatZqCelNr
import Derived.Test.YtfeljlokmcoocaaGreatZqRegIn
set_option linter.unusedVariables false
set_option linter.unusedSimpArgs false
namespace Go.Proofs.YtfeljlokmcoocaaGreat
open Go Go.RowKit Go.Bl

def outerR : List Pt := [⟨-20, -20⟩, ⟨40, -20⟩, ⟨40, 40⟩, ⟨-20, 40⟩]

theorem outer_reg : regF [outerR] = 0 := by decide

theorem in_outer {p : Pt} (h : isInF outerR p = true) : (-20 ≤ p.x ∧ p.x ≤ 40) ∧ -20 ≤ p.y ∧ p.y ≤ 40 := by
  by_cases h1 : (-20 ≤ p.x ∧ p.x ≤ 40) ∧ -20 ≤ p.y ∧ p.y ≤ 40
  · exact h1
  · exfalso
    have : isInF outerR p = false := by
      refine isIn_far (by simp [outerR]) ?_
      by_cases a1 : p.x < -20
      · exact .inr (.inl (by intro q hq; simp [outerR] at hq; rcases hq with rfl | rfl | rfl | rfl <;> simp only <;> omega))
      · by_cases a2 : 40 < p.x
        · exact .inl (by intro q hq; simp [outerR] at hq; rcases hq with rfl | rfl | rfl | rfl <;> simp only <;> omega)
        · by_cases a3 : p.y < -20
          · exact .inr (.inr (.inr (by intro q hq; simp [outerR] at hq; rcases hq with rfl | rfl | rfl | rfl <;> simp only <;> omega)))
          · exact .inr (.inr (.inl (by intro q hq; simp [outerR] at hq; rcases hq with rfl | rfl | rfl | rfl <;> simp only <;> omega)))
    rw [this] at h; cases h

theorem outer_in {p : Pt} (h : (-20 < p.x ∧ p.x < 40) ∧ -20 < p.y ∧ p.y < 40) : isInF outerR p = true := by
  have c0 : crossG outerR p 0 = false := by
    have e1 : ¬ (-20 : Int) > p.y := by omega
    simp [crossG, cor, outerR, e1]
  have c1 : crossG outerR p 1 = true := by
    have e1 : ¬ (-20 : Int) > p.y := by omega
    have e2 : (40 : Int) > p.y := by omega
    have e3 : turnP ⟨40, -20⟩ ⟨40, 40⟩ p > 0 := by unfold turnP; simp only; omega
    simp [crossG, cor, outerR, e1, e2, e3]
  have c2 : crossG outerR p 2 = false := by
    have e2 : (40 : Int) > p.y := by omega
    simp [crossG, cor, outerR, e2]
  have c3 : crossG outerR p 3 = false := by
    have e1 : ¬ (-20 : Int) > p.y := by omega
    have e2 : (40 : Int) > p.y := by omega
    have e3 : turnP ⟨-20, 40⟩ ⟨-20, -20⟩ p > 0 := by unfold turnP; simp only; omega
    simp [crossG, cor, outerR, e1, e2, e3]
  have e : isInF outerR p = isInK outerR p 4 := rfl
  rw [e]
  simp only [isInK, c0, c1, c2, c3]
  rfl
/-- the two rings: what is known of the inner one -/
structure TopR (r : List Pt) : Prop where
  both : regF [outerR, r] = 0
  one : regF [r] = 0
  bd : ∀ q ∈ r, (-20 ≤ q.x ∧ q.x ≤ 40) ∧ -20 ≤ q.y ∧ q.y ≤ 40

theorem topR_of {r : List Pt} (h : regF [outerR, r] = 0) (hd : dptF [outerR, r] 1 = 1) : TopR r := by
  have hk := rok2_of h
  have hr : ringF r = 0 := hk.ring r (by simp)
  have h3 : 3 ≤ r.length := (ringF_ok hr).1
  refine ⟨h, of_rok2 ⟨by simp, ?_, fun q hq => ?_, fun i j hi hj hne => ?_⟩, fun q hq => ?_⟩
  · have := hk.flat
    unfold flatK at this ⊢
    simp at this ⊢
    omega
  · simp at hq; rw [hq]; exact hr
  · simp at hi hj; omega
  · have hin : isInF outerR (cor r 0) = true := by
      have e1 : dptF [outerR, r] 1 = if isInF outerR (cor r 0) then 1 else 0 := by
        show dptK [outerR, r] 1 2 = _
        simp [dptK]
      rw [e1] at hd
      by_cases hc : isInF outerR (cor r 0) = true
      · exact hc
      · rw [if_neg hc] at hd; cases hd
    obtain ⟨j, hj, rfl⟩ := List.getElem_of_mem hq
    have hal := isIn_along hk (i := 1) (k := 0) (by simp) (by simp) (by simp) j
    have e2 : ([outerR, r] : List (List Pt)).getD 0 [] = outerR := rfl
    have e3 : ([outerR, r] : List (List Pt)).getD 1 [] = r := rfl
    rw [e2, e3, hin, cor_lt hj] at hal
    exact in_outer hal

theorem sidesK_two (a b : List Pt) : sidesK [a, b] 2 = ringS 0 a a.length ++ ringS 1 b b.length := by
  rw [sidesK_snoc (rs := [a, b]) (k := 1) (by simp), sidesK_snoc (rs := [a, b]) (k := 0) (by simp)]
  simp [sidesK]

theorem sidesK_one (a : List Pt) : sidesK [a] 1 = ringS 0 a a.length := by
  rw [sidesK_snoc (rs := [a]) (k := 0) (by simp)]
  simp [sidesK]

theorem any_ringS (p : Pt) (i : Nat) (r : List Pt) (k : Nat) : (ringS i r k).any (fun s => onB p s.a s.b) = (List.range k).any fun j => onB p (cor r j) (cor r (j + 1)) := by
  unfold ringS; rw [List.any_map]; rfl

theorem on_two (a b : List Pt) (p : Pt) : onAny [a, b] p = (onAny [a] p || onAny [b] p) := by
  unfold onAny
  show (sidesK [a, b] 2).any _ = ((sidesK [a] 1).any _ || (sidesK [b] 1).any _)
  rw [sidesK_two, sidesK_one, sidesK_one, List.any_append, any_ringS, any_ringS, any_ringS]

theorem par_two (a b : List Pt) (p : Pt) : parR [a, b] p 2 = (isInF a p ^^ isInF b p) := by
  show ((false ^^ isInF a p) ^^ isInF b p) = _
  simp

theorem par_one (a : List Pt) (p : Pt) : parR [a] p 1 = isInF a p := by
  show (false ^^ isInF a p) = _
  simp

theorem cov_two (a b : List Pt) (p : Pt) : covB [a, b] p = (onAny [a] p || onAny [b] p || (isInF a p ^^ isInF b p)) := by
  unfold covB
  show (onAny [a, b] p || parR [a, b] p 2) = _
  rw [on_two, par_two]

theorem cov_one (a : List Pt) (p : Pt) : covB [a] p = (onAny [a] p || isInF a p) := by
  unfold covB
  show (onAny [a] p || parR [a] p 1) = _
  rw [par_one]

theorem outer_on {p : Pt} (h : (-20 ≤ p.x ∧ p.x ≤ 40) ∧ -20 ≤ p.y ∧ p.y ≤ 40) (hn : onAny [outerR] p = false) : (-20 < p.x ∧ p.x < 40) ∧ -20 < p.y ∧ p.y < 40 := by
  unfold onAny at hn
  rw [show ([outerR] : List (List Pt)).length = 1 from rfl, sidesK_one, any_ringS, List.any_eq_false] at hn
  have n0 := hn 0 (by simp [outerR])
  have n1 := hn 1 (by simp [outerR])
  have n2 := hn 2 (by simp [outerR])
  have n3 := hn 3 (by simp [outerR])
  rw [onB_iff] at n0 n1 n2 n3
  simp [cor, outerR, turnP, boxP] at n0 n1 n2 n3
  omega
/-- who is in the inner ring is in the outer one, or on a side -/
theorem inner_in {r : List Pt} (h : TopR r) {p : Pt} (hp : isInF r p = true) (hn : onAny [outerR] p = false) : isInF outerR p = true := by
  have h3 : 0 < r.length := by
    have := (rok_of h.one).len r (by simp)
    omega
  have hb : (-20 ≤ p.x ∧ p.x ≤ 40) ∧ -20 ≤ p.y ∧ p.y ≤ 40 := by
    by_cases h1 : (-20 ≤ p.x ∧ p.x ≤ 40) ∧ -20 ≤ p.y ∧ p.y ≤ 40
    · exact h1
    · exfalso
      have : isInF r p = false := by
        refine isIn_far h3 ?_
        by_cases a1 : p.x < -20
        · exact .inr (.inl fun q hq => by have := h.bd q hq; omega)
        · by_cases a2 : 40 < p.x
          · exact .inl fun q hq => by have := h.bd q hq; omega
          · by_cases a3 : p.y < -20
            · exact .inr (.inr (.inr fun q hq => by have := h.bd q hq; omega))
            · exact .inr (.inr (.inl fun q hq => by have := h.bd q hq; omega))
      rw [this] at hp; cases hp
  exact outer_in (outer_on hb hn)

theorem top_less {r : List Pt} (x y : Int) : ((fillS [outerR] 2 x y && !fillS [r] 2 x y) && !fillS [outerR, r] 2 x y) = false := by
  unfold fillS
  rw [cov_two, cov_one, cov_one]
  generalize onAny [outerR] _ = a
  generalize onAny [r] _ = b
  generalize isInF outerR _ = c
  generalize isInF r _ = d
  revert a b c d; decide

theorem top_more {r : List Pt} (h : TopR r) {x y : Int} (hm : (fillS [outerR, r] 2 x y && !(fillS [outerR] 2 x y && !fillS [r] 2 x y)) = true) : insF [outerR, r] ⟨cenI 2 x, cenI 2 y⟩ = 0 := by
  unfold insF
  rcases ho : onAny [outerR, r] ⟨cenI 2 x, cenI 2 y⟩ with _ | _
  · exfalso
    unfold fillS at hm
    rw [on_two, Bool.or_eq_false_iff] at ho
    have hin := fun hp => inner_in h (p := ⟨cenI 2 x, cenI 2 y⟩) hp ho.1
    rw [cov_two, cov_one, cov_one, ho.1, ho.2] at hm
    revert hm hin
    generalize isInF outerR _ = c
    generalize isInF r _ = d
    revert c d; decide
  · simp

theorem box_bd {rs : List (List Pt)} (hb : ∀ r ∈ rs, ∀ q ∈ r, (-20 ≤ q.x ∧ q.x ≤ 40) ∧ -20 ≤ q.y ∧ q.y ≤ 40) : bigB rs.flatten 2 = false ∨ rs.flatten.length = 0 := by
  by_cases h0 : rs.flatten.length = 0
  · exact .inr h0
  · left
    have hq : ∀ q ∈ rs.flatten, (-20 ≤ q.x ∧ q.x ≤ 40) ∧ -20 ≤ q.y ∧ q.y ≤ 40 := fun q hq => by
      obtain ⟨r, hr, hq⟩ := List.mem_flatten.1 hq
      exact hb r hr q hq
    obtain ⟨p1, m1, e1⟩ := lowF_mem Pt.x (l := rs.flatten) (by omega)
    obtain ⟨p2, m2, e2⟩ := hiF_mem Pt.x (l := rs.flatten) (by omega)
    obtain ⟨p3, m3, e3⟩ := lowF_mem Pt.y (l := rs.flatten) (by omega)
    obtain ⟨p4, m4, e4⟩ := hiF_mem Pt.y (l := rs.flatten) (by omega)
    have := hq _ m1; have := hq _ m2; have := hq _ m3; have := hq _ m4
    unfold bigB wideF
    rw [e1, e2, e3, e4, decide_eq_false (by omega), decide_eq_false (by omega)]
    rfl

theorem fill_nearS {rs : List (List Pt)} (hne : ∀ r ∈ rs, 0 < r.length) (hb : ∀ r ∈ rs, ∀ q ∈ r, (-20 ≤ q.x ∧ q.x ≤ 40) ∧ -20 ≤ q.y ∧ q.y ≤ 40) : NearS (fillS rs 2) := by
  intro x y h
  by_cases h1 : (-11 ≤ x ∧ x ≤ 21) ∧ -11 ≤ y ∧ y ≤ 21
  · omega
  · exfalso
    have : covB rs ⟨cenI 2 x, cenI 2 y⟩ = false := by
      have hc : cenI 2 x = x * 2 + 1 := rfl
      have hc2 : cenI 2 y = y * 2 + 1 := rfl
      refine cov_far hne ?_
      by_cases a1 : x < -11
      · exact .inr (.inl fun r hr q hq => by have := hb r hr q hq; simp only; omega)
      · by_cases a2 : 21 < x
        · exact .inl fun r hr q hq => by have := hb r hr q hq; simp only; omega
        · by_cases a3 : y < -11
          · exact .inr (.inr (.inr fun r hr q hq => by have := hb r hr q hq; simp only; omega))
          · exact .inr (.inr (.inl fun r hr q hq => by have := hb r hr q hq; simp only; omega))
    unfold fillS at h
    rw [this] at h; cases h
/-- filling near the origin goes well -/
theorem fill_ok {rf : Int} {rs : List (List Pt)} {c : Cel} {er : Int} (h0 : rf = 0) (hne : ∀ r ∈ rs, 0 < r.length) (hb : ∀ r ∈ rs, ∀ q ∈ r, (-20 ≤ q.x ∧ q.x ≤ 40) ∧ -20 ≤ q.y ∧ q.y ≤ 40)
    (h : ResC (fillE rf rs 2) 2 (fillS rs 2) c er) : er = 0 ∧ CellsOk c ∧ c.step = 2 ∧ ∀ x y, onC c x y = fillS rs 2 x y := by
  have hE : fillE rf rs 2 = 0 := by
    unfold fillE
    rw [if_neg (by simp [h0]), if_neg (by decide)]
    rcases box_bd hb with h | h
    · rw [if_neg (by rw [h]; simp)]
    · rw [if_neg (by simp [h])]
  rcases h with ⟨h1, -⟩ | ⟨-, h⟩
  · exact absurd hE h1
  · obtain rfl := h.zero (by decide) (fill_nearS hne hb)
    exact ⟨rfl, h.back (by decide)⟩

end Go.Proofs.YtfeljlokmcoocaaGreat
