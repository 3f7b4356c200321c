/- Contracts of functions that this seat's laws reach, each: what one call returns and what it leaves in memory; no condition beyond each theorem's own hypotheses. -/
import Derived.Test.YtfeljlokmcoocaaGreatZqRegRefA
import Derived.Test.YtfeljlokmcoocaaGreatZqRegH
set_option linter.unusedVariables false
set_option linter.unusedSimpArgs false
namespace Go.Proofs.YtfeljlokmcoocaaGreat
open Go Go.RowKit Go.Bl

def crs (a b p : Pt) : Bool := (decide (a.y > p.y) != decide (b.y > p.y)) && (decide (turnP a b p > 0) == decide (b.y > a.y))

theorem crossG_eq (r : List Pt) (p : Pt) (i : Nat) : crossG r p i = crs (cor r i) (cor r (i + 1)) p := rfl

theorem turn_xl (a b p : Pt) : turnP a b p = -((p.x - b.x) * (p.y - a.y) + (p.x - a.x) * (b.y - p.y)) := by unfold turnP; grind

theorem two_pos {x y m n : Int} (hx : 0 < x) (hy : 0 < y) (hm : 0 ≤ m) (hn : 0 ≤ n) (h : 0 < m + n) : 0 < x * m + y * n := by
  have h1 := Int.mul_nonneg (Int.le_of_lt hx) hm
  have h2 := Int.mul_nonneg (Int.le_of_lt hy) hn
  by_cases k : 0 < m
  · have := Int.mul_pos hx k; omega
  · have := Int.mul_pos hy (show 0 < n by omega); omega

theorem xl {a b p : Pt} (h : a.y < b.y) (h1 : a.y ≤ p.y) (h2 : p.y ≤ b.y) (k1 : a.x < p.x) (k2 : b.x < p.x) : turnP a b p < 0 := by
  have e := turn_xl a b p
  have := two_pos (x := p.x - b.x) (y := p.x - a.x) (m := p.y - a.y) (n := b.y - p.y) (by omega) (by omega) (by omega) (by omega) (by omega)
  omega

theorem xr {a b p : Pt} (h : a.y < b.y) (h1 : a.y ≤ p.y) (h2 : p.y ≤ b.y) (k1 : p.x < a.x) (k2 : p.x < b.x) : 0 < turnP a b p := by
  have e : turnP a b p = (b.x - p.x) * (p.y - a.y) + (a.x - p.x) * (b.y - p.y) := by unfold turnP; grind
  have := two_pos (x := b.x - p.x) (y := a.x - p.x) (m := p.y - a.y) (n := b.y - p.y) (by omega) (by omega) (by omega) (by omega) (by omega)
  omega
/-- where both ways are, a b is on the left of p q -/
def Lft (a b p q : Pt) : Prop := (a.y < b.y → a.y ≤ p.y → p.y ≤ b.y → turnP a b p < 0) ∧ (a.y < b.y → a.y ≤ q.y → q.y ≤ b.y → turnP a b q < 0) ∧
  (p.y < q.y → p.y ≤ a.y → a.y ≤ q.y → 0 < turnP p q a) ∧ (p.y < q.y → p.y ≤ b.y → b.y ≤ q.y → 0 < turnP p q b)

theorem lft_x {a b p q : Pt} (h : max a.x b.x < min p.x q.x) : Lft a b p q :=
  ⟨fun h1 h2 h3 => xl h1 h2 h3 (by omega) (by omega), fun h1 h2 h3 => xl h1 h2 h3 (by omega) (by omega), fun h1 h2 h3 => xr h1 h2 h3 (by omega) (by omega), fun h1 h2 h3 => xr h1 h2 h3 (by omega) (by omega)⟩

theorem pos_of_mul' {a b : Int} (hb : 0 ≤ b) (h : 0 < b * a) : 0 < a := by
  rcases Int.lt_trichotomy a 0 with k | k | k
  · have := Int.mul_nonpos_of_nonneg_of_nonpos hb (Int.le_of_lt k); omega
  · rw [k, Int.mul_zero] at h; omega
  · exact k

theorem lft_t {a b p q : Pt} (hab : a.y ≤ b.y) (h1 : turnP a b p < 0) (h2 : turnP a b q < 0) : Lft a b p q := by
  refine ⟨fun _ _ _ => h1, fun _ _ _ => h2, fun h3 h4 h5 => ?_, fun h3 h4 h5 => ?_⟩
  · have e := sideY p q a b
    have k := two_pos (x := -turnP a b p) (y := -turnP a b q) (m := q.y - a.y) (n := a.y - p.y) (by omega) (by omega) (by omega) (by omega) (by omega)
    refine pos_of_mul' (b := b.y - a.y) (by omega) ?_
    have e' : (b.y - a.y) * turnP p q a = -turnP a b p * (q.y - a.y) + -turnP a b q * (a.y - p.y) := by grind
    rw [e']; exact k
  · have e := sideY p q b a
    have f1 := turn_flip a b p
    have f2 := turn_flip a b q
    have k := two_pos (x := -turnP a b p) (y := -turnP a b q) (m := q.y - b.y) (n := b.y - p.y) (by omega) (by omega) (by omega) (by omega) (by omega)
    refine pos_of_mul' (b := b.y - a.y) (by omega) ?_
    have e' : (b.y - a.y) * turnP p q b = -turnP a b p * (q.y - b.y) + -turnP a b q * (b.y - p.y) := by rw [f1, f2] at e; grind
    rw [e']; exact k

theorem lft_t' {a b p q : Pt} (hab : a.y ≤ b.y) (h1 : 0 < turnP a b p) (h2 : 0 < turnP a b q) : Lft p q a b := by
  refine ⟨fun h3 h4 h5 => ?_, fun h3 h4 h5 => ?_, fun _ _ _ => h1, fun _ _ _ => h2⟩
  · have e := sideY p q a b
    have k := two_pos (x := turnP a b p) (y := turnP a b q) (m := q.y - a.y) (n := a.y - p.y) (by omega) (by omega) (by omega) (by omega) (by omega)
    have := pos_of_mul' (a := -turnP p q a) (b := b.y - a.y) (by omega) (by
      have e' : (b.y - a.y) * -turnP p q a = turnP a b p * (q.y - a.y) + turnP a b q * (a.y - p.y) := by grind
      rw [e']; exact k)
    omega
  · have e := sideY p q b a
    have f1 := turn_flip a b p
    have f2 := turn_flip a b q
    have k := two_pos (x := turnP a b p) (y := turnP a b q) (m := q.y - b.y) (n := b.y - p.y) (by omega) (by omega) (by omega) (by omega) (by omega)
    have := pos_of_mul' (a := -turnP p q b) (b := b.y - a.y) (by omega) (by
      have e' : (b.y - a.y) * -turnP p q b = turnP a b p * (q.y - b.y) + turnP a b q * (b.y - p.y) := by rw [f1, f2] at e; grind
      rw [e']; exact k)
    omega

theorem lft_y {a b p q : Pt} (hab : a.y ≤ b.y) (hpq : p.y ≤ q.y) (h : b.y < p.y ∨ q.y < a.y) : Lft a b p q :=
  ⟨fun _ _ _ => by omega, fun _ _ _ => by omega, fun _ _ _ => by omega, fun _ _ _ => by omega⟩

theorem sep {a b p q : Pt} (hm : meetM a b p q = false) (hab : a.y ≤ b.y) (hpq : p.y ≤ q.y) : Lft a b p q ∨ Lft p q a b := by
  have h := fun k => Bool.eq_false_iff.1 hm (meetM_iff.2 k)
  by_cases x1 : max a.x b.x < min p.x q.x
  · exact .inl (lft_x x1)
  by_cases x2 : max p.x q.x < min a.x b.x
  · exact .inr (lft_x x2)
  by_cases y1 : b.y < p.y ∨ q.y < a.y
  · exact .inl (lft_y hab hpq y1)
  by_cases t1 : turnP a b p < 0 ∧ turnP a b q < 0
  · exact .inl (lft_t hab t1.1 t1.2)
  by_cases t2 : 0 < turnP a b p ∧ 0 < turnP a b q
  · exact .inr (lft_t' hab t2.1 t2.2)
  by_cases t3 : turnP p q a < 0 ∧ turnP p q b < 0
  · exact .inr (lft_t hpq t3.1 t3.2)
  by_cases t4 : 0 < turnP p q a ∧ 0 < turnP p q b
  · exact .inl (lft_t' hpq t4.1 t4.2)
  exact absurd ⟨⟨by omega, by omega⟩, by omega, by omega⟩ h

theorem crs_iff {a b p : Pt} : crs a b p = true ↔ ¬ (a.y > p.y ↔ b.y > p.y) ∧ (turnP a b p > 0 ↔ b.y > a.y) := by
  unfold crs
  rw [Bool.and_eq_true, bne_iff_ne, beq_iff_eq, decide_eq_decide, ne_eq, decide_eq_decide]
/-- above p, not above q, and on the right of p q -/
def ins (p q v : Pt) : Bool := decide (p.y < v.y ∧ v.y ≤ q.y ∧ turnP p q v < 0)

theorem four_bool (A B C D : Bool) (h1 : A = true → C = true) (h2 : B = true → D = true) (h3 : B = true → A = true) (h4 : D = true → C = true) : ((A && !B) ^^ (C && !D)) = ((!A && C) ^^ (!B && D)) := by
  revert A B C D; decide

theorem crs_ins1 {a b p q : Pt} (hm : meetM a b p q = false) (hab : a.y ≤ b.y) (hpq : p.y ≤ q.y) : (crs a b p ^^ crs a b q) = (ins p q a ^^ ins p q b) := by
  rcases sep hm hab hpq with h | h
  · obtain ⟨h1, h2, h3, h4⟩ := h
    have e1 : crs a b p = false := by
      rw [Bool.eq_false_iff]; intro k; rw [crs_iff] at k
      have := h1 (by omega) (by omega) (by omega); omega
    have e2 : crs a b q = false := by
      rw [Bool.eq_false_iff]; intro k; rw [crs_iff] at k
      have := h2 (by omega) (by omega) (by omega); omega
    have e3 : ins p q a = false := by
      unfold ins; rw [decide_eq_false_iff_not]; intro k
      have := h3 (by omega) (by omega) (by omega); omega
    have e4 : ins p q b = false := by
      unfold ins; rw [decide_eq_false_iff_not]; intro k
      have := h4 (by omega) (by omega) (by omega); omega
    rw [e1, e2, e3, e4]
  · obtain ⟨h3, h4, h1, h2⟩ := h
    have e1 : crs a b p = decide (a.y ≤ p.y ∧ p.y < b.y) := by
      rw [Bool.eq_iff_iff, crs_iff, decide_eq_true_eq]
      constructor
      · intro k; omega
      · intro k; have := h1 (by omega) (by omega) (by omega); omega
    have e2 : crs a b q = decide (a.y ≤ q.y ∧ q.y < b.y) := by
      rw [Bool.eq_iff_iff, crs_iff, decide_eq_true_eq]
      constructor
      · intro k; omega
      · intro k; have := h2 (by omega) (by omega) (by omega); omega
    have e3 : ins p q a = decide (p.y < a.y ∧ a.y ≤ q.y) := by
      unfold ins; rw [decide_eq_decide]
      constructor
      · intro k; omega
      · intro k; have := h3 (by omega) (by omega) (by omega); omega
    have e4 : ins p q b = decide (p.y < b.y ∧ b.y ≤ q.y) := by
      unfold ins; rw [decide_eq_decide]
      constructor
      · intro k; omega
      · intro k; have := h4 (by omega) (by omega) (by omega); omega
    rw [e1, e2, e3, e4]
    have d1 : decide (a.y ≤ p.y ∧ p.y < b.y) = (decide (a.y ≤ p.y) && !decide (b.y ≤ p.y)) := by rw [Bool.eq_iff_iff]; simp
    have d2 : decide (a.y ≤ q.y ∧ q.y < b.y) = (decide (a.y ≤ q.y) && !decide (b.y ≤ q.y)) := by rw [Bool.eq_iff_iff]; simp
    have d3 : decide (p.y < a.y ∧ a.y ≤ q.y) = (!decide (a.y ≤ p.y) && decide (a.y ≤ q.y)) := by rw [Bool.eq_iff_iff]; simp
    have d4 : decide (p.y < b.y ∧ b.y ≤ q.y) = (!decide (b.y ≤ p.y) && decide (b.y ≤ q.y)) := by rw [Bool.eq_iff_iff]; simp
    rw [d1, d2, d3, d4]
    refine four_bool _ _ _ _ ?_ ?_ ?_ ?_ <;> (simp only [decide_eq_true_eq]; intro _; omega)

theorem meetM_f_sym {a b c d : Pt} (h : meetM a b c d = false) : meetM c d a b = false := by rw [meetM_comm]; exact h

theorem meetM_f_flip {a b c d : Pt} (h : meetM a b c d = false) : meetM b a c d = false := by
  rw [Bool.eq_false_iff] at *; exact fun k => h ((meetM_flip _ _ _ _).2 k)

theorem meetM_f_flip2 {a b c d : Pt} (h : meetM a b c d = false) : meetM a b d c = false := meetM_f_sym (meetM_f_flip (meetM_f_sym h))

theorem crs_flip {a b p : Pt} (h : ¬ (a.y > p.y ↔ b.y > p.y) → turnP a b p ≠ 0) : crs b a p = crs a b p := by
  rw [Bool.eq_iff_iff, crs_iff, crs_iff, turn_flip a b p]
  constructor
  · rintro ⟨h1, h2⟩; have := h (by omega); omega
  · rintro ⟨h1, h2⟩; have := h (by omega); omega

theorem off_turn {a b p q : Pt} (hm : meetM a b p q = false) (h : ¬ (a.y > p.y ↔ b.y > p.y)) : turnP a b p ≠ 0 := by
  intro e
  have := meet_on (a := p) (b := q) e (line_boxY e (by omega) (by omega) (by omega))
  rw [meetM_f_sym hm] at this
  cases this

theorem crs_ins2 {a b p q : Pt} (hm : meetM a b p q = false) (hpq : p.y ≤ q.y) : (crs a b p ^^ crs a b q) = (ins p q a ^^ ins p q b) := by
  rcases Int.le_total a.y b.y with h | h
  · exact crs_ins1 hm h hpq
  · rw [← crs_flip (off_turn hm), ← crs_flip (off_turn (meetM_f_flip2 hm)), crs_ins1 (meetM_f_flip hm) h hpq, Bool.xor_comm]

def insW (p q v : Pt) : Bool := if p.y ≤ q.y then ins p q v else ins q p v

theorem crs_insW {a b p q : Pt} (hm : meetM a b p q = false) : (crs a b p ^^ crs a b q) = (insW p q a ^^ insW p q b) := by
  unfold insW
  by_cases h : p.y ≤ q.y
  · rw [if_pos h, if_pos h]; exact crs_ins2 hm h
  · rw [if_neg h, if_neg h, Bool.xor_comm]; exact crs_ins2 (meetM_f_flip2 hm) (by omega)

theorem isInK_xor (r : List Pt) (p : Pt) (k : Nat) : isInK r p (k + 1) = (isInK r p k ^^ crossG r p k) := by
  show (if crossG r p k then !isInK r p k else isInK r p k) = _
  cases crossG r p k <;> simp

theorem xor_tel (a b c d x y z : Bool) (h1 : (a ^^ b) = (x ^^ y)) (h2 : (c ^^ d) = (y ^^ z)) : ((a ^^ c) ^^ (b ^^ d)) = (x ^^ z) := by
  revert a b c d x y z; decide
/-- along a way that meets no side of a ring, in stays in -/
theorem isIn_way {r : List Pt} {p q : Pt} (h : ∀ i, i < r.length → meetM (cor r i) (cor r (i + 1)) p q = false) : isInF r p = isInF r q := by
  have key : ∀ k, k ≤ r.length → (isInK r p k ^^ isInK r q k) = (insW p q (cor r 0) ^^ insW p q (cor r k)) := by
    intro k
    induction k with
    | zero => intro _; simp [isInK]
    | succ k ih =>
      intro hk
      rw [isInK_xor, isInK_xor, crossG_eq, crossG_eq]
      exact xor_tel _ _ _ _ _ _ _ (ih (by omega)) (crs_insW (h k (by omega)))
  have := key r.length (Nat.le_refl _)
  rw [cor_len] at this
  unfold isInF
  revert this
  cases isInK r p r.length <;> cases isInK r q r.length <;> simp

end Go.Proofs.YtfeljlokmcoocaaGreat

namespace Go.Proofs.YtfeljlokmcoocaaGreat
open Go Go.RowKit Go.Bl

structure CM {G : Type} (op : G → G → G) (e : G) : Prop where
  assoc : ∀ a b c, op (op a b) c = op a (op b c)
  comm : ∀ a b, op a b = op b a
  idr : ∀ a, op a e = a

def foldW {G : Type} (op : G → G → G) (e : G) (F : Nat → G) (s : Nat) : Nat → G
  | 0 => e
  | k + 1 => op (foldW op e F s k) (F (s + k))

/-- a right ring, as what goes round -/
structure RR (n : Nat) (f : Nat → Pt) : Prop where
  n3 : 3 ≤ n
  per : ∀ i, f (i + n) = f i
  inj : ∀ i j, i < j → j < i + n → f i ≠ f j
  fold : ∀ i, foldB (f (i + 1)) (f i) (f (i + 2)) = false
  side : ∀ i j, i + 2 ≤ j → j + 2 ≤ i + n → meetM (f i) (f (i + 1)) (f j) (f (j + 1)) = false

theorem cor_mm (r : List Pt) (i k : Nat) : cor r (i % r.length + k) = cor r (i + k) := by unfold cor; rw [Nat.mod_add_mod]

def vecF (f : Nat → Pt) (k : Nat) : Pt := subP (f (k + 1)) (f k)

def dblP (a b : Pt) : Int := a.x * b.y - a.y * b.x

/-- the corner's turn -/
def tzF (n : Nat) (f : Nat → Pt) (k : Nat) : Int := turnP (f (k + n - 1)) (f k) (f (k + 1))

/-- the corners that are not straight -/
def keepI (r : List Pt) : List Nat := (List.range r.length).filter fun k => decide (tzF r.length (cor r) k ≠ 0)

def simpR (r : List Pt) : List Pt := (keepI r).map (cor r)

def sgI (r : List Pt) (i : Nat) : Nat := (keepI r).getD (i % (keepI r).length) 0 + r.length * (i / (keepI r).length)

end Go.Proofs.YtfeljlokmcoocaaGreat
