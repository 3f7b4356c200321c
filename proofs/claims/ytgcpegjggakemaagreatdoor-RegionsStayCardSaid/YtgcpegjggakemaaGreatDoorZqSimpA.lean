/- Contracts of functions that this seat's laws reach, each: what one call returns and what it leaves in memory; no condition beyond each theorem's own hypotheses. -/
import Derived.Test.YtgcpegjggakemaaGreatDoorZqGeoA
import Derived.Test.YtgcpegjggakemaaGreatDoorZqRegH
import Derived.Test.YtgcpegjggakemaaGreatDoorZqRegSame
import Derived.Test.YtgcpegjggakemaaGreatDoorZqTree
import Derived.Test.YtgcpegjggakemaaGreatDoorZqJm
set_option linter.unusedVariables false
set_option linter.unusedSimpArgs false
namespace Go.Proofs.YtgcpegjggakemaaGreatDoor
open Go Go.RowKit Go.Bl

def crs (a b p : Pt) : Bool := (decide (a.y > p.y) != decide (b.y > p.y)) && (decide (turnP a b p > 0) == decide (b.y > a.y))

/-- where both ways are, a b is on the left of p q -/
def Lft (a b p q : Pt) : Prop := (a.y < b.y → a.y ≤ p.y → p.y ≤ b.y → turnP a b p < 0) ∧ (a.y < b.y → a.y ≤ q.y → q.y ≤ b.y → turnP a b q < 0) ∧
  (p.y < q.y → p.y ≤ a.y → a.y ≤ q.y → 0 < turnP p q a) ∧ (p.y < q.y → p.y ≤ b.y → b.y ≤ q.y → 0 < turnP p q b)

/-- above p, not above q, and on the right of p q -/
def ins (p q v : Pt) : Bool := decide (p.y < v.y ∧ v.y ≤ q.y ∧ turnP p q v < 0)

theorem meetM_f_sym {a b c d : Pt} (h : meetM a b c d = false) : meetM c d a b = false := by rw [meetM_comm]; exact h

def insW (p q v : Pt) : Bool := if p.y ≤ q.y then ins p q v else ins q p v

end Go.Proofs.YtgcpegjggakemaaGreatDoor

namespace Go.Proofs.YtgcpegjggakemaaGreatDoor
open Go Go.RowKit Go.Bl

structure CM {G : Type} (op : G → G → G) (e : G) : Prop where
  assoc : ∀ a b c, op (op a b) c = op a (op b c)
  comm : ∀ a b, op a b = op b a
  idr : ∀ a, op a e = a

def foldW {G : Type} (op : G → G → G) (e : G) (F : Nat → G) (s : Nat) : Nat → G
  | 0 => e
  | k + 1 => op (foldW op e F s k) (F (s + k))

/-- a right ring, as what goes round -/
structure RR (n : Nat) (f : Nat → Pt) : Prop where
  n3 : 3 ≤ n
  per : ∀ i, f (i + n) = f i
  inj : ∀ i j, i < j → j < i + n → f i ≠ f j
  fold : ∀ i, foldB (f (i + 1)) (f i) (f (i + 2)) = false
  side : ∀ i j, i + 2 ≤ j → j + 2 ≤ i + n → meetM (f i) (f (i + 1)) (f j) (f (j + 1)) = false

theorem cor_mm (r : List Pt) (i k : Nat) : cor r (i % r.length + k) = cor r (i + k) := by unfold cor; rw [Nat.mod_add_mod]

theorem sidesF_no {r : List Pt} (h : sidesF r = 0) {i : Nat} (hi : i < r.length) : badI r i = false := by
  unfold sidesF at h
  by_cases hb : (List.range r.length).any (badI r) = true
  · rw [if_pos hb] at h; cases h
  · rw [Bool.not_eq_true, List.any_eq_false] at hb
    have := hb i (List.mem_range.2 hi)
    simpa using this

theorem rr_of {r : List Pt} (h : ringF r = 0) : RR r.length (cor r) := by
  obtain ⟨h3, -, -, ht, hs⟩ := ringF_ok h
  have hpos : 0 < r.length := by omega
  have hbad : ∀ i, badI r (i % r.length) = false := fun i => sidesF_no hs (Nat.mod_lt i hpos)
  refine ⟨h3, cor_mod r, fun i j hij hjn e => ?_, fun i => ?_, fun i j hij hjn => ?_⟩
  · have hne : i % r.length ≠ j % r.length := fun q => by
      have := Nat.sub_mod_eq_zero_of_mod_eq q.symm
      rw [Nat.mod_eq_of_lt (by omega)] at this
      omega
    have e' : cor r (i % r.length) = cor r (j % r.length) := by
      have h1 := cor_mm r i 0
      have h2 := cor_mm r j 0
      simp only [Nat.add_zero] at h1 h2
      rw [h1, h2]; exact e
    rcases Nat.lt_or_gt_of_ne hne with hl | hl
    · exact twice_ne ht (Nat.mod_lt j hpos) hl e'
    · exact twice_ne ht (Nat.mod_lt i hpos) hl e'.symm
  · have hb := hbad i
    unfold badI at hb
    rw [Bool.or_eq_false_iff] at hb
    have := hb.1
    rw [cor_mm, cor_mm] at this
    have h0 := cor_mm r i 0
    simp only [Nat.add_zero] at h0
    rwa [h0] at this
  · have hm := Nat.mod_lt i hpos
    have e0 := cor_mm r i 0
    simp only [Nat.add_zero] at e0
    have e1 := cor_mm r i 1
    have e2 := cor_mm r i (j - i)
    have e3 := cor_mm r i (j + 1 - i)
    rw [show i + (j - i) = j by omega] at e2
    rw [show i + (j + 1 - i) = j + 1 by omega] at e3
    rw [← e0, ← e1, ← e2, ← e3]
    generalize ha : i % r.length = a at *
    by_cases hk : a + (j - i) < r.length
    · have hb := hbad i
      rw [ha] at hb
      unfold badI at hb
      rw [Bool.or_eq_false_iff, List.any_eq_false] at hb
      have := hb.2 (a + (j - i)) (List.mem_range.2 hk)
      unfold sidesM at this
      rw [decide_eq_true (by omega), Bool.true_and, Bool.not_eq_true] at this
      rw [show a + (j + 1 - i) = a + (j - i) + 1 by omega]
      exact this
    · obtain ⟨k, hke⟩ : ∃ k, a + (j - i) = k + r.length := ⟨a + (j - i) - r.length, by omega⟩
      have hb := sidesF_no hs (show k < r.length by omega)
      unfold badI at hb
      rw [Bool.or_eq_false_iff, List.any_eq_false] at hb
      have := hb.2 a (List.mem_range.2 hm)
      unfold sidesM at this
      rw [decide_eq_true (by omega), Bool.true_and, Bool.not_eq_true] at this
      rw [show a + (j + 1 - i) = k + 1 + r.length by omega, hke, cor_mod, cor_mod]
      exact meetM_f_sym this

def vecF (f : Nat → Pt) (k : Nat) : Pt := subP (f (k + 1)) (f k)

def dblP (a b : Pt) : Int := a.x * b.y - a.y * b.x

theorem sub_zero (a : Pt) : ∀ u, ¬ parV u (subP a a) := by
  intro u h
  have := h.2
  have e : doV u (subP a a) = 0 := by unfold doV subP; simp
  omega

theorem sub_ne {a b : Pt} (h : a ≠ b) : (subP b a).x ≠ 0 ∨ (subP b a).y ≠ 0 := by
  unfold subP; simp only
  rcases Classical.em (b.x - a.x = 0) with k | k
  · refine .inr fun k2 => h ?_
    cases a; cases b; simp only [Pt.mk.injEq] at *; omega
  · exact .inl k

theorem vec_self {n : Nat} {f : Nat → Pt} (R : RR n f) (s : Nat) : parV (vecF f s) (vecF f s) :=
  ⟨by unfold crV; rw [Int.mul_comm]; omega, doV_self (sub_ne (R.inj s (s + 1) (by omega) (by have := R.n3; omega)))⟩
/-- the corner's turn -/
def tzF (n : Nat) (f : Nat → Pt) (k : Nat) : Int := turnP (f (k + n - 1)) (f k) (f (k + 1))

theorem tz_pos {n : Nat} {f : Nat → Pt} (R : RR n f) (k : Nat) : tzF n f (k + 1) = turnP (f k) (f (k + 1)) (f (k + 2)) := by
  unfold tzF; rw [show k + 1 + n - 1 = k + n by omega, R.per]

theorem par_step {n : Nat} {f : Nat → Pt} (R : RR n f) {k : Nat} (h : tzF n f (k + 1) = 0) : parV (vecF f k) (vecF f (k + 1)) := by
  have := R.n3
  rw [tz_pos R] at h
  exact par_of h (R.fold k) (R.inj _ _ (by omega) (by omega)) (R.inj _ _ (by omega) (by omega))

theorem tz_per {n : Nat} {f : Nat → Pt} (R : RR n f) (k : Nat) : tzF n f (k + n) = tzF n f k := by
  have := R.n3
  unfold tzF
  rw [show k + n + n - 1 = k + n - 1 + n by omega, R.per, R.per, show k + n + 1 = k + 1 + n by omega, R.per]
/-- a way over straight corners -/
theorem chain_way {n : Nat} {f : Nat → Pt} (R : RR n f) (s : Nat) : ∀ d, 1 ≤ d → (∀ k, s < k → k < s + d → tzF n f k = 0) →
    parV (vecF f s) (subP (f (s + d)) (f s)) ∧ parV (vecF f s) (vecF f (s + d - 1)) ∧ (∀ p q, meetM (f s) (f (s + d)) p q = true → ∃ k, k < d ∧ meetM (f (s + k)) (f (s + k + 1)) p q = true)
  | 0, h, _ => absurd h (by omega)
  | 1, _, _ => ⟨vec_self R s, by rw [show s + 1 - 1 = s by omega]; exact vec_self R s, fun p q h => ⟨0, by omega, h⟩⟩
  | d + 2, _, hz => by
    obtain ⟨i1, i2, i3⟩ := chain_way R s (d + 1) (by omega) (fun k h1 h2 => hz k h1 (by omega))
    have hp := par_step R (k := s + d) (hz (s + d + 1) (by omega) (by omega))
    rw [show s + (d + 1) - 1 = s + d by omega] at i2
    have hv : parV (vecF f s) (vecF f (s + d + 1)) := parV_trans i2 hp
    have h : parV (subP (f (s + (d + 1))) (f s)) (subP (f (s + (d + 2))) (f (s + (d + 1)))) := parV_trans (parV_symm i1) hv
    refine ⟨parV_trans i1 (par_long h), hv, fun p q hm => ?_⟩
    rcases meet_split h hm with k | k
    · obtain ⟨j, h1, h2⟩ := i3 p q k
      exact ⟨j, by omega, h2⟩
    · exact ⟨d + 1, by omega, k⟩
/-- the corners that are not straight -/
def keepI (r : List Pt) : List Nat := (List.range r.length).filter fun k => decide (tzF r.length (cor r) k ≠ 0)

def simpR (r : List Pt) : List Pt := (keepI r).map (cor r)

def sgI (r : List Pt) (i : Nat) : Nat := (keepI r).getD (i % (keepI r).length) 0 + r.length * (i / (keepI r).length)

theorem keep_lt {r : List Pt} {k : Nat} (h : k ∈ keepI r) : k < r.length ∧ tzF r.length (cor r) k ≠ 0 := by
  unfold keepI at h
  rw [List.mem_filter, List.mem_range, decide_eq_true_eq] at h
  exact h

theorem keep_not {r : List Pt} {k : Nat} (hk : k < r.length) (h : k ∉ keepI r) : tzF r.length (cor r) k = 0 := by
  by_cases e : tzF r.length (cor r) k = 0
  · exact e
  · exact absurd (by unfold keepI; rw [List.mem_filter, List.mem_range, decide_eq_true_eq]; exact ⟨hk, e⟩) h

theorem keep_mono (r : List Pt) : ∀ i j (hi : i < (keepI r).length) (hj : j < (keepI r).length), i < j → (keepI r)[i] < (keepI r)[j] :=
  List.pairwise_iff_getElem.1 (List.pairwise_lt_range.filter _)

theorem keep_inv (r : List Pt) {i j : Nat} (hi : i < (keepI r).length) (hj : j < (keepI r).length) (h : (keepI r)[i] < (keepI r)[j]) : i < j := by
  rcases Nat.lt_trichotomy i j with k | k | k
  · exact k
  · subst k; omega
  · have := keep_mono r j i hj hi k; omega

theorem tz_am {r : List Pt} (R : RR r.length (cor r)) (k : Nat) : ∀ t, tzF r.length (cor r) (k + r.length * t) = tzF r.length (cor r) k
  | 0 => rfl
  | t + 1 => by rw [Nat.mul_add, Nat.mul_one, ← Nat.add_assoc, tz_per R, tz_am R k t]

theorem dm_of {m q t : Nat} (h : t < m) : (m * q + t) % m = t ∧ (m * q + t) / m = q :=
  ⟨by rw [Nat.mul_add_mod, Nat.mod_eq_of_lt h], by rw [Nat.mul_add_div (by omega), Nat.div_eq_of_lt h, Nat.add_zero]⟩

theorem sg_at (r : List Pt) {q t : Nat} (h : t < (keepI r).length) : sgI r ((keepI r).length * q + t) = (keepI r)[t] + r.length * q := by
  unfold sgI
  rw [(dm_of h).1, (dm_of h).2, List.getD_eq_getElem?_getD, List.getElem?_eq_getElem h, Option.getD_some]

theorem dm_ex {m : Nat} (hm : 0 < m) (i : Nat) : ∃ q t, i = m * q + t ∧ t < m := ⟨i / m, i % m, by rw [Nat.div_add_mod], Nat.mod_lt i hm⟩

theorem sg_keep {r : List Pt} (R : RR r.length (cor r)) (hm : 0 < (keepI r).length) (i : Nat) : tzF r.length (cor r) (sgI r i) ≠ 0 := by
  obtain ⟨q, t, rfl, ht⟩ := dm_ex hm i
  rw [sg_at r ht, tz_am R]
  exact (keep_lt (List.getElem_mem ht)).2

theorem sg_per {r : List Pt} (hm : 0 < (keepI r).length) (i : Nat) : sgI r (i + (keepI r).length) = sgI r i + r.length := by
  obtain ⟨q, t, rfl, ht⟩ := dm_ex hm i
  rw [show (keepI r).length * q + t + (keepI r).length = (keepI r).length * (q + 1) + t by rw [Nat.mul_add]; omega, sg_at r ht, sg_at r ht, Nat.mul_add]; omega

theorem sg_step {r : List Pt} (R : RR r.length (cor r)) (hm : 0 < (keepI r).length) (i : Nat) : sgI r i < sgI r (i + 1) ∧ ∀ k, sgI r i < k → k < sgI r (i + 1) → tzF r.length (cor r) k = 0 := by
  obtain ⟨q, t, rfl, ht⟩ := dm_ex hm i
  have n3 := R.n3
  rw [sg_at r ht]
  by_cases h1 : t + 1 < (keepI r).length
  · rw [show (keepI r).length * q + t + 1 = (keepI r).length * q + (t + 1) by omega, sg_at r h1]
    have hlt := keep_mono r t (t + 1) ht h1 (by omega)
    refine ⟨by omega, fun k k1 k2 => ?_⟩
    obtain ⟨k', rfl⟩ : ∃ k', k = k' + r.length * q := ⟨k - r.length * q, by omega⟩
    rw [tz_am R]
    have hb := (keep_lt (List.getElem_mem h1)).1
    refine keep_not (by omega) fun hmem => ?_
    obtain ⟨j, hj, e⟩ := List.mem_iff_getElem.1 hmem
    have a1 := keep_inv r ht hj (by omega)
    have a2 := keep_inv r hj h1 (by omega)
    omega
  · have h2 : t + 1 = (keepI r).length := by omega
    rw [show (keepI r).length * q + t + 1 = (keepI r).length * (q + 1) + 0 by rw [Nat.mul_add]; omega, sg_at r hm]
    have hb := (keep_lt (List.getElem_mem ht)).1
    have hb0 := (keep_lt (List.getElem_mem hm)).1
    rw [Nat.mul_add, Nat.mul_one]
    refine ⟨by omega, fun k k1 k2 => ?_⟩
    obtain ⟨k', rfl⟩ : ∃ k', k = k' + r.length * q := ⟨k - r.length * q, by omega⟩
    rw [tz_am R]
    by_cases hk : k' < r.length
    · refine keep_not hk fun hmem => ?_
      obtain ⟨j, hj, e⟩ := List.mem_iff_getElem.1 hmem
      have a1 := keep_inv r ht hj (by omega)
      omega
    · obtain ⟨k2', rfl⟩ : ∃ x, k' = x + r.length := ⟨k' - r.length, by omega⟩
      rw [tz_per R]
      refine keep_not (by omega) fun hmem => ?_
      obtain ⟨j, hj, e⟩ := List.mem_iff_getElem.1 hmem
      have a2 := keep_inv r hj hm (by omega)
      omega

theorem loop_no {n : Nat} {f : Nat → Pt} (R : RR n f) (s : Nat) (hz : ∀ k, s < k → k < s + n → tzF n f k = 0) : False := by
  have h := (chain_way R s n (by have := R.n3; omega) hz).1
  rw [R.per] at h
  exact sub_zero _ _ h

theorem keep3 {r : List Pt} (R : RR r.length (cor r)) : 3 ≤ (keepI r).length := by
  have n3 := R.n3
  rcases Nat.eq_zero_or_pos (keepI r).length with h0 | hm
  · exfalso
    refine loop_no R 0 fun k k1 k2 => keep_not (by omega) fun hmem => ?_
    rw [List.eq_nil_of_length_eq_zero h0] at hmem
    cases hmem
  · have s1 := sg_step R hm 0
    have s2 := sg_step R hm 1
    have s3 := sg_step R hm 2
    rcases Nat.lt_trichotomy (keepI r).length 2 with h | h | h
    · exfalso
      have hp := sg_per hm 0
      rw [show 0 + (keepI r).length = 0 + 1 by omega] at hp
      refine loop_no R (sgI r 0) fun k k1 k2 => s1.2 k k1 (by omega)
    · exfalso
      have hp := sg_per hm 0
      rw [show 0 + (keepI r).length = 0 + 1 + 1 by omega] at hp
      have hk := sg_keep R hm 1
      obtain ⟨d1, e1⟩ : ∃ d, sgI r (0 + 1) = sgI r 0 + d := ⟨sgI r (0 + 1) - sgI r 0, by omega⟩
      obtain ⟨d2, e2⟩ : ∃ d, sgI r (1 + 1) = sgI r 1 + d := ⟨sgI r (1 + 1) - sgI r 1, by omega⟩
      obtain ⟨c1, c2, -⟩ := chain_way R (sgI r 0) d1 (by omega) (fun k k1 k2 => s1.2 k k1 (by omega))
      obtain ⟨c3, -, -⟩ := chain_way R (sgI r 1) d2 (by omega) (fun k k1 k2 => s2.2 k k1 (by omega))
      rw [← e1] at c1 c2
      rw [← e2, show sgI r (1 + 1) = sgI r 0 + r.length from hp, cor_mod] at c3
      have c4 := parV_trans (parV_symm c2) c1
      have hs := ssg_zero (par_cr2 c4 c3)
      apply hk
      have s1' : sgI r 0 < sgI r 1 := s1.1
      obtain ⟨u, hu⟩ : ∃ u, sgI r 1 = u + 1 := ⟨sgI r 1 - 1, by omega⟩
      rw [show (0 + 1 : Nat) = 1 from rfl] at hs
      rw [hu] at hs ⊢
      rw [tz_pos R, turn_cr2]
      refine hs.2 ?_
      unfold crV subP; grind
    · omega

theorem simp_len (r : List Pt) : (simpR r).length = (keepI r).length ∧ (simpR r).length ≤ r.length := by
  have : (keepI r).length ≤ r.length := by
    have := List.length_filter_le (fun k => decide (tzF r.length (cor r) k ≠ 0)) (List.range r.length)
    rw [List.length_range] at this
    exact this
  unfold simpR; rw [List.length_map]; exact ⟨rfl, this⟩

end Go.Proofs.YtgcpegjggakemaaGreatDoor

namespace Go.Bl
open Go

end Go.Bl
namespace Go.Proofs.YtgcpegjggakemaaGreatDoor
open Go Go.RowKit Go.Bl

def simpS (rs : List (List Pt)) : List (List Pt) := rs.map simpR

theorem sid_mem {rs : List (List Pt)} {i k : Nat} (hi : i < rs.length) (hk : k < (rs.getD i []).length) : (⟨i, cor (rs.getD i []) k, cor (rs.getD i []) (k + 1)⟩ : Sid) ∈ sidesK rs rs.length := by
  unfold sidesK
  refine List.mem_flatten.2 ⟨_, List.mem_map.2 ⟨i, List.mem_range.2 hi, rfl⟩, ?_⟩
  unfold ringS
  exact List.mem_map.2 ⟨k, List.mem_range.2 hk, rfl⟩

/-- no two rings have a point in common -/
def Apart (rs : List (List Pt)) : Prop := ∀ i j, i < rs.length → j < rs.length → i ≠ j → ∀ a b, meetM (cor (rs.getD i []) a) (cor (rs.getD i []) (a + 1)) (cor (rs.getD j []) b) (cor (rs.getD j []) (b + 1)) = false

theorem apart_of {rs : List (List Pt)} (h : pairsM (sidesK rs rs.length) = false) (hn : ∀ r ∈ rs, 0 < r.length) : Apart rs := by
  intro i j hi hj hne a b
  have hp : ∀ i, i < rs.length → 0 < (rs.getD i []).length := fun i hi => by
    rw [List.getD_eq_getElem?_getD, List.getElem?_eq_getElem hi, Option.getD_some]; exact hn _ (List.getElem_mem hi)
  have ha := Nat.mod_lt a (hp i hi)
  have hb := Nat.mod_lt b (hp j hj)
  have h1 := sid_mem hi ha
  have h2 := sid_mem hj hb
  have e0 := cor_mm (rs.getD i []) a 0
  have e1 := cor_mm (rs.getD i []) a 1
  have e2 := cor_mm (rs.getD j []) b 0
  have e3 := cor_mm (rs.getD j []) b 1
  simp only [Nat.add_zero] at e0 e2
  rw [e0, e1] at h1
  rw [e2, e3] at h2
  rw [Bool.eq_false_iff]
  intro hm
  rw [Bool.eq_false_iff] at h
  refine h (pairsM_iff.2 ⟨_, h1, _, h2, ?_⟩)
  unfold tstS
  rw [Bool.and_eq_true]
  exact ⟨by rw [bne_iff_ne]; simp only [ne_eq]; omega, hm⟩

structure ROk2 (rs : List (List Pt)) : Prop where
  few : rs.length ≤ 100
  flat : (flatK rs rs.length).length ≤ 2000
  ring : ∀ r ∈ rs, ringF r = 0
  apart : Apart rs

theorem rok2_of {rs : List (List Pt)} (h : regF rs = 0) : ROk2 rs := by
  unfold regF at h
  by_cases h1 : 100 < rs.length ∨ 2000 < (flatK rs rs.length).length
  · rw [if_pos h1] at h; cases h
  · rw [if_neg h1] at h
    by_cases h2 : scanN (fun k => ringF (rs.getD k [])) rs.length = 0
    · rw [if_neg (fun k => k h2)] at h
      have hr : ∀ r ∈ rs, ringF r = 0 := fun r hm => by
        obtain ⟨k, hk, rfl⟩ := List.mem_iff_getElem.1 hm
        have := scanN_zero' h2 k hk
        rw [List.getD_eq_getElem?_getD, List.getElem?_eq_getElem hk, Option.getD_some] at this
        exact this
      refine ⟨by omega, by omega, hr, apart_of ?_ (fun r hm => by have := (ringF_ok (hr r hm)).1; omega)⟩
      by_cases h3 : pairsM (sidesK rs rs.length) = true
      · rw [if_pos h3] at h; cases h
      · simpa using h3
    · rw [if_pos h2] at h; exact absurd h h2

end Go.Proofs.YtgcpegjggakemaaGreatDoor

namespace Go.Proofs.YtgcpegjggakemaaGreatDoor
open Go Go.RowKit Go.Bl

def simpK (r : List Pt) (j : Nat) : List Pt := ((List.range j).filter fun k => decide (tzF r.length (cor r) k ≠ 0)).map (cor r)

theorem simpK_all (r : List Pt) : simpK r r.length = simpR r := rfl

theorem simpK_yes {r : List Pt} {j : Nat} (h : tzF r.length (cor r) j ≠ 0) : simpK r (j + 1) = simpK r j ++ [cor r j] := by
  unfold simpK; rw [List.range_succ, List.filter_append, List.map_append]; simp [h]

theorem simpK_no {r : List Pt} {j : Nat} (h : tzF r.length (cor r) j = 0) : simpK r (j + 1) = simpK r j := by
  unfold simpK; rw [List.range_succ, List.filter_append, List.map_append]; simp [h]

theorem simpK_len (r : List Pt) (j : Nat) : (simpK r j).length ≤ j := by
  unfold simpK
  rw [List.length_map]
  have := List.length_filter_le (fun k => decide (tzF r.length (cor r) k ≠ 0)) (List.range j)
  rwa [List.length_range] at this

end Go.Proofs.YtgcpegjggakemaaGreatDoor
