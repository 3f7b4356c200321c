/- Contracts of functions that this seat's laws reach, each: what one call returns and what it leaves in memory; no condition beyond each theorem's own hypotheses. -/
import Derived.Test.YtmhnjpcjagbdhaaZqRegRefA
import Derived.Test.YtmhnjpcjagbdhaaZqRegH
set_option linter.unusedVariables false
set_option linter.unusedSimpArgs false
namespace Go.Proofs.Ytmhnjpcjagbdhaa
open Go Go.RowKit Go.Bl

def crs (a b p : Pt) : Bool := (decide (a.y > p.y) != decide (b.y > p.y)) && (decide (turnP a b p > 0) == decide (b.y > a.y))

theorem crossG_eq (r : List Pt) (p : Pt) (i : Nat) : crossG r p i = crs (cor r i) (cor r (i + 1)) p := rfl

theorem xor_six (a b c t u : Bool) : ((a != c) && (t == u)) = (((a != b) && (t == u)) ^^ ((b != c) && (t == u))) := by revert a b c t u; decide

theorem crs_split {a b c : Pt} (h : parV (subP b a) (subP c b)) (p : Pt) : crs a c p = (crs a b p ^^ crs b c p) := by
  have s := turn_long h p
  have r := turn_rest h p
  have y := par_y h
  unfold ssg subP at y
  simp only at y
  have e1 : decide (turnP a c p > 0) = decide (turnP a b p > 0) := by rw [decide_eq_decide]; exact s.1.symm
  have e2 : decide (turnP b c p > 0) = decide (turnP a b p > 0) := by rw [decide_eq_decide]; exact r.1.symm
  have e3 : decide (c.y > a.y) = decide (b.y > a.y) := by rw [decide_eq_decide]; omega
  have e4 : decide (c.y > b.y) = decide (b.y > a.y) := by rw [decide_eq_decide]; omega
  unfold crs
  rw [e1, e2, e3, e4]
  exact xor_six _ _ _ _ _

theorem turn_xl (a b p : Pt) : turnP a b p = -((p.x - b.x) * (p.y - a.y) + (p.x - a.x) * (b.y - p.y)) := by unfold turnP; grind

theorem two_pos {x y m n : Int} (hx : 0 < x) (hy : 0 < y) (hm : 0 ≤ m) (hn : 0 ≤ n) (h : 0 < m + n) : 0 < x * m + y * n := by
  have h1 := Int.mul_nonneg (Int.le_of_lt hx) hm
  have h2 := Int.mul_nonneg (Int.le_of_lt hy) hn
  by_cases k : 0 < m
  · have := Int.mul_pos hx k; omega
  · have := Int.mul_pos hy (show 0 < n by omega); omega

theorem xl {a b p : Pt} (h : a.y < b.y) (h1 : a.y ≤ p.y) (h2 : p.y ≤ b.y) (k1 : a.x < p.x) (k2 : b.x < p.x) : turnP a b p < 0 := by
  have e := turn_xl a b p
  have := two_pos (x := p.x - b.x) (y := p.x - a.x) (m := p.y - a.y) (n := b.y - p.y) (by omega) (by omega) (by omega) (by omega) (by omega)
  omega

theorem xr {a b p : Pt} (h : a.y < b.y) (h1 : a.y ≤ p.y) (h2 : p.y ≤ b.y) (k1 : p.x < a.x) (k2 : p.x < b.x) : 0 < turnP a b p := by
  have e : turnP a b p = (b.x - p.x) * (p.y - a.y) + (a.x - p.x) * (b.y - p.y) := by unfold turnP; grind
  have := two_pos (x := b.x - p.x) (y := a.x - p.x) (m := p.y - a.y) (n := b.y - p.y) (by omega) (by omega) (by omega) (by omega) (by omega)
  omega
/-- where both ways are, a b is on the left of p q -/
def Lft (a b p q : Pt) : Prop := (a.y < b.y → a.y ≤ p.y → p.y ≤ b.y → turnP a b p < 0) ∧ (a.y < b.y → a.y ≤ q.y → q.y ≤ b.y → turnP a b q < 0) ∧
  (p.y < q.y → p.y ≤ a.y → a.y ≤ q.y → 0 < turnP p q a) ∧ (p.y < q.y → p.y ≤ b.y → b.y ≤ q.y → 0 < turnP p q b)

theorem lft_x {a b p q : Pt} (h : max a.x b.x < min p.x q.x) : Lft a b p q :=
  ⟨fun h1 h2 h3 => xl h1 h2 h3 (by omega) (by omega), fun h1 h2 h3 => xl h1 h2 h3 (by omega) (by omega), fun h1 h2 h3 => xr h1 h2 h3 (by omega) (by omega), fun h1 h2 h3 => xr h1 h2 h3 (by omega) (by omega)⟩

theorem pos_of_mul' {a b : Int} (hb : 0 ≤ b) (h : 0 < b * a) : 0 < a := by
  rcases Int.lt_trichotomy a 0 with k | k | k
  · have := Int.mul_nonpos_of_nonneg_of_nonpos hb (Int.le_of_lt k); omega
  · rw [k, Int.mul_zero] at h; omega
  · exact k

theorem lft_t {a b p q : Pt} (hab : a.y ≤ b.y) (h1 : turnP a b p < 0) (h2 : turnP a b q < 0) : Lft a b p q := by
  refine ⟨fun _ _ _ => h1, fun _ _ _ => h2, fun h3 h4 h5 => ?_, fun h3 h4 h5 => ?_⟩
  · have e := sideY p q a b
    have k := two_pos (x := -turnP a b p) (y := -turnP a b q) (m := q.y - a.y) (n := a.y - p.y) (by omega) (by omega) (by omega) (by omega) (by omega)
    refine pos_of_mul' (b := b.y - a.y) (by omega) ?_
    have e' : (b.y - a.y) * turnP p q a = -turnP a b p * (q.y - a.y) + -turnP a b q * (a.y - p.y) := by grind
    rw [e']; exact k
  · have e := sideY p q b a
    have f1 := turn_flip a b p
    have f2 := turn_flip a b q
    have k := two_pos (x := -turnP a b p) (y := -turnP a b q) (m := q.y - b.y) (n := b.y - p.y) (by omega) (by omega) (by omega) (by omega) (by omega)
    refine pos_of_mul' (b := b.y - a.y) (by omega) ?_
    have e' : (b.y - a.y) * turnP p q b = -turnP a b p * (q.y - b.y) + -turnP a b q * (b.y - p.y) := by rw [f1, f2] at e; grind
    rw [e']; exact k

theorem lft_t' {a b p q : Pt} (hab : a.y ≤ b.y) (h1 : 0 < turnP a b p) (h2 : 0 < turnP a b q) : Lft p q a b := by
  refine ⟨fun h3 h4 h5 => ?_, fun h3 h4 h5 => ?_, fun _ _ _ => h1, fun _ _ _ => h2⟩
  · have e := sideY p q a b
    have k := two_pos (x := turnP a b p) (y := turnP a b q) (m := q.y - a.y) (n := a.y - p.y) (by omega) (by omega) (by omega) (by omega) (by omega)
    have := pos_of_mul' (a := -turnP p q a) (b := b.y - a.y) (by omega) (by
      have e' : (b.y - a.y) * -turnP p q a = turnP a b p * (q.y - a.y) + turnP a b q * (a.y - p.y) := by grind
      rw [e']; exact k)
    omega
  · have e := sideY p q b a
    have f1 := turn_flip a b p
    have f2 := turn_flip a b q
    have k := two_pos (x := turnP a b p) (y := turnP a b q) (m := q.y - b.y) (n := b.y - p.y) (by omega) (by omega) (by omega) (by omega) (by omega)
    have := pos_of_mul' (a := -turnP p q b) (b := b.y - a.y) (by omega) (by
      have e' : (b.y - a.y) * -turnP p q b = turnP a b p * (q.y - b.y) + turnP a b q * (b.y - p.y) := by rw [f1, f2] at e; grind
      rw [e']; exact k)
    omega

theorem lft_y {a b p q : Pt} (hab : a.y ≤ b.y) (hpq : p.y ≤ q.y) (h : b.y < p.y ∨ q.y < a.y) : Lft a b p q :=
  ⟨fun _ _ _ => by omega, fun _ _ _ => by omega, fun _ _ _ => by omega, fun _ _ _ => by omega⟩

theorem sep {a b p q : Pt} (hm : meetM a b p q = false) (hab : a.y ≤ b.y) (hpq : p.y ≤ q.y) : Lft a b p q ∨ Lft p q a b := by
  have h := fun k => Bool.eq_false_iff.1 hm (meetM_iff.2 k)
  by_cases x1 : max a.x b.x < min p.x q.x
  · exact .inl (lft_x x1)
  by_cases x2 : max p.x q.x < min a.x b.x
  · exact .inr (lft_x x2)
  by_cases y1 : b.y < p.y ∨ q.y < a.y
  · exact .inl (lft_y hab hpq y1)
  by_cases t1 : turnP a b p < 0 ∧ turnP a b q < 0
  · exact .inl (lft_t hab t1.1 t1.2)
  by_cases t2 : 0 < turnP a b p ∧ 0 < turnP a b q
  · exact .inr (lft_t' hab t2.1 t2.2)
  by_cases t3 : turnP p q a < 0 ∧ turnP p q b < 0
  · exact .inr (lft_t hpq t3.1 t3.2)
  by_cases t4 : 0 < turnP p q a ∧ 0 < turnP p q b
  · exact .inl (lft_t' hpq t4.1 t4.2)
  exact absurd ⟨⟨by omega, by omega⟩, by omega, by omega⟩ h

theorem crs_iff {a b p : Pt} : crs a b p = true ↔ ¬ (a.y > p.y ↔ b.y > p.y) ∧ (turnP a b p > 0 ↔ b.y > a.y) := by
  unfold crs
  rw [Bool.and_eq_true, bne_iff_ne, beq_iff_eq, decide_eq_decide, ne_eq, decide_eq_decide]
/-- above p, not above q, and on the right of p q -/
def ins (p q v : Pt) : Bool := decide (p.y < v.y ∧ v.y ≤ q.y ∧ turnP p q v < 0)

theorem four_bool (A B C D : Bool) (h1 : A = true → C = true) (h2 : B = true → D = true) (h3 : B = true → A = true) (h4 : D = true → C = true) : ((A && !B) ^^ (C && !D)) = ((!A && C) ^^ (!B && D)) := by
  revert A B C D; decide

theorem crs_ins1 {a b p q : Pt} (hm : meetM a b p q = false) (hab : a.y ≤ b.y) (hpq : p.y ≤ q.y) : (crs a b p ^^ crs a b q) = (ins p q a ^^ ins p q b) := by
  rcases sep hm hab hpq with h | h
  · obtain ⟨h1, h2, h3, h4⟩ := h
    have e1 : crs a b p = false := by
      rw [Bool.eq_false_iff]; intro k; rw [crs_iff] at k
      have := h1 (by omega) (by omega) (by omega); omega
    have e2 : crs a b q = false := by
      rw [Bool.eq_false_iff]; intro k; rw [crs_iff] at k
      have := h2 (by omega) (by omega) (by omega); omega
    have e3 : ins p q a = false := by
      unfold ins; rw [decide_eq_false_iff_not]; intro k
      have := h3 (by omega) (by omega) (by omega); omega
    have e4 : ins p q b = false := by
      unfold ins; rw [decide_eq_false_iff_not]; intro k
      have := h4 (by omega) (by omega) (by omega); omega
    rw [e1, e2, e3, e4]
  · obtain ⟨h3, h4, h1, h2⟩ := h
    have e1 : crs a b p = decide (a.y ≤ p.y ∧ p.y < b.y) := by
      rw [Bool.eq_iff_iff, crs_iff, decide_eq_true_eq]
      constructor
      · intro k; omega
      · intro k; have := h1 (by omega) (by omega) (by omega); omega
    have e2 : crs a b q = decide (a.y ≤ q.y ∧ q.y < b.y) := by
      rw [Bool.eq_iff_iff, crs_iff, decide_eq_true_eq]
      constructor
      · intro k; omega
      · intro k; have := h2 (by omega) (by omega) (by omega); omega
    have e3 : ins p q a = decide (p.y < a.y ∧ a.y ≤ q.y) := by
      unfold ins; rw [decide_eq_decide]
      constructor
      · intro k; omega
      · intro k; have := h3 (by omega) (by omega) (by omega); omega
    have e4 : ins p q b = decide (p.y < b.y ∧ b.y ≤ q.y) := by
      unfold ins; rw [decide_eq_decide]
      constructor
      · intro k; omega
      · intro k; have := h4 (by omega) (by omega) (by omega); omega
    rw [e1, e2, e3, e4]
    have d1 : decide (a.y ≤ p.y ∧ p.y < b.y) = (decide (a.y ≤ p.y) && !decide (b.y ≤ p.y)) := by rw [Bool.eq_iff_iff]; simp
    have d2 : decide (a.y ≤ q.y ∧ q.y < b.y) = (decide (a.y ≤ q.y) && !decide (b.y ≤ q.y)) := by rw [Bool.eq_iff_iff]; simp
    have d3 : decide (p.y < a.y ∧ a.y ≤ q.y) = (!decide (a.y ≤ p.y) && decide (a.y ≤ q.y)) := by rw [Bool.eq_iff_iff]; simp
    have d4 : decide (p.y < b.y ∧ b.y ≤ q.y) = (!decide (b.y ≤ p.y) && decide (b.y ≤ q.y)) := by rw [Bool.eq_iff_iff]; simp
    rw [d1, d2, d3, d4]
    refine four_bool _ _ _ _ ?_ ?_ ?_ ?_ <;> (simp only [decide_eq_true_eq]; intro _; omega)

theorem meetM_f_sym {a b c d : Pt} (h : meetM a b c d = false) : meetM c d a b = false := by rw [meetM_comm]; exact h

theorem meetM_f_flip {a b c d : Pt} (h : meetM a b c d = false) : meetM b a c d = false := by
  rw [Bool.eq_false_iff] at *; exact fun k => h ((meetM_flip _ _ _ _).2 k)

theorem meetM_f_flip2 {a b c d : Pt} (h : meetM a b c d = false) : meetM a b d c = false := meetM_f_sym (meetM_f_flip (meetM_f_sym h))

theorem crs_flip {a b p : Pt} (h : ¬ (a.y > p.y ↔ b.y > p.y) → turnP a b p ≠ 0) : crs b a p = crs a b p := by
  rw [Bool.eq_iff_iff, crs_iff, crs_iff, turn_flip a b p]
  constructor
  · rintro ⟨h1, h2⟩; have := h (by omega); omega
  · rintro ⟨h1, h2⟩; have := h (by omega); omega

theorem off_turn {a b p q : Pt} (hm : meetM a b p q = false) (h : ¬ (a.y > p.y ↔ b.y > p.y)) : turnP a b p ≠ 0 := by
  intro e
  have := meet_on (a := p) (b := q) e (line_boxY e (by omega) (by omega) (by omega))
  rw [meetM_f_sym hm] at this
  cases this

theorem crs_ins2 {a b p q : Pt} (hm : meetM a b p q = false) (hpq : p.y ≤ q.y) : (crs a b p ^^ crs a b q) = (ins p q a ^^ ins p q b) := by
  rcases Int.le_total a.y b.y with h | h
  · exact crs_ins1 hm h hpq
  · rw [← crs_flip (off_turn hm), ← crs_flip (off_turn (meetM_f_flip2 hm)), crs_ins1 (meetM_f_flip hm) h hpq, Bool.xor_comm]

def insW (p q v : Pt) : Bool := if p.y ≤ q.y then ins p q v else ins q p v

theorem crs_insW {a b p q : Pt} (hm : meetM a b p q = false) : (crs a b p ^^ crs a b q) = (insW p q a ^^ insW p q b) := by
  unfold insW
  by_cases h : p.y ≤ q.y
  · rw [if_pos h, if_pos h]; exact crs_ins2 hm h
  · rw [if_neg h, if_neg h, Bool.xor_comm]; exact crs_ins2 (meetM_f_flip2 hm) (by omega)

theorem isInK_xor (r : List Pt) (p : Pt) (k : Nat) : isInK r p (k + 1) = (isInK r p k ^^ crossG r p k) := by
  show (if crossG r p k then !isInK r p k else isInK r p k) = _
  cases crossG r p k <;> simp

theorem xor_tel (a b c d x y z : Bool) (h1 : (a ^^ b) = (x ^^ y)) (h2 : (c ^^ d) = (y ^^ z)) : ((a ^^ c) ^^ (b ^^ d)) = (x ^^ z) := by
  revert a b c d x y z; decide
/-- along a way that meets no side of a ring, in stays in -/
theorem isIn_way {r : List Pt} {p q : Pt} (h : ∀ i, i < r.length → meetM (cor r i) (cor r (i + 1)) p q = false) : isInF r p = isInF r q := by
  have key : ∀ k, k ≤ r.length → (isInK r p k ^^ isInK r q k) = (insW p q (cor r 0) ^^ insW p q (cor r k)) := by
    intro k
    induction k with
    | zero => intro _; simp [isInK]
    | succ k ih =>
      intro hk
      rw [isInK_xor, isInK_xor, crossG_eq, crossG_eq]
      exact xor_tel _ _ _ _ _ _ _ (ih (by omega)) (crs_insW (h k (by omega)))
  have := key r.length (Nat.le_refl _)
  rw [cor_len] at this
  unfold isInF
  revert this
  cases isInK r p r.length <;> cases isInK r q r.length <;> simp

end Go.Proofs.Ytmhnjpcjagbdhaa

namespace Go.Proofs.Ytmhnjpcjagbdhaa
open Go Go.RowKit Go.Bl

structure CM {G : Type} (op : G → G → G) (e : G) : Prop where
  assoc : ∀ a b c, op (op a b) c = op a (op b c)
  comm : ∀ a b, op a b = op b a
  idr : ∀ a, op a e = a

def foldW {G : Type} (op : G → G → G) (e : G) (F : Nat → G) (s : Nat) : Nat → G
  | 0 => e
  | k + 1 => op (foldW op e F s k) (F (s + k))

theorem foldW_one {G : Type} {op : G → G → G} {e : G} (h : CM op e) (F : Nat → G) (s : Nat) : foldW op e F s 1 = F s := by
  show op e (F (s + 0)) = F s
  rw [h.comm, h.idr]; rfl

theorem foldW_add {G : Type} {op : G → G → G} {e : G} (h : CM op e) (F : Nat → G) (s k : Nat) : ∀ l, foldW op e F s (k + l) = op (foldW op e F s k) (foldW op e F (s + k) l)
  | 0 => (h.idr _).symm
  | l + 1 => by
    show op (foldW op e F s (k + l)) (F (s + (k + l))) = op _ (op (foldW op e F (s + k) l) (F (s + k + l)))
    rw [foldW_add h F s k l, h.assoc, Nat.add_assoc]

theorem foldW_rot {G : Type} {op : G → G → G} {e : G} (h : CM op e) (F : Nat → G) {n : Nat} (hp : ∀ i, F (i + n) = F i) : ∀ s, foldW op e F s n = foldW op e F 0 n
  | 0 => rfl
  | s + 1 => by
    rw [← foldW_rot h F hp s]
    cases n with
    | zero => rfl
    | succ m =>
      have e1 : foldW op e F s (m + 1) = op (F s) (foldW op e F (s + 1) m) := by
        rw [Nat.add_comm m 1, foldW_add h F s 1 m, foldW_one h]
      have e2 : F (s + 1 + m) = F s := by rw [show s + 1 + m = s + (m + 1) by omega, hp]
      rw [e1]
      show op (foldW op e F (s + 1) m) (F (s + 1 + m)) = _
      rw [e2, h.comm]

theorem foldW_seg {G : Type} {op : G → G → G} {e : G} (h : CM op e) (F : Nat → G) (σ : Nat → Nat) (hs : ∀ i, σ i < σ (i + 1)) : ∀ m, σ 0 ≤ σ m ∧ foldW op e (fun i => foldW op e F (σ i) (σ (i + 1) - σ i)) 0 m = foldW op e F (σ 0) (σ m - σ 0)
  | 0 => ⟨Nat.le_refl _, by rw [Nat.sub_self]; rfl⟩
  | m + 1 => by
    obtain ⟨h1, h2⟩ := foldW_seg h F σ hs m
    have h3 := hs m
    refine ⟨by omega, ?_⟩
    show op (foldW op e (fun i => foldW op e F (σ i) (σ (i + 1) - σ i)) 0 m) (foldW op e F (σ (0 + m)) (σ (0 + m + 1) - σ (0 + m))) = _
    rw [h2, Nat.zero_add, show σ (m + 1) - σ 0 = (σ m - σ 0) + (σ (m + 1) - σ m) by omega, foldW_add h, show σ 0 + (σ m - σ 0) = σ m by omega]

theorem cm_xor : CM Bool.xor false := ⟨by decide, by decide, by decide⟩

theorem cm_add : CM (fun a b : Int => a + b) 0 := ⟨Int.add_assoc, Int.add_comm, Int.add_zero⟩

/-- a right ring, as what goes round -/
structure RR (n : Nat) (f : Nat → Pt) : Prop where
  n3 : 3 ≤ n
  per : ∀ i, f (i + n) = f i
  inj : ∀ i j, i < j → j < i + n → f i ≠ f j
  fold : ∀ i, foldB (f (i + 1)) (f i) (f (i + 2)) = false
  side : ∀ i j, i + 2 ≤ j → j + 2 ≤ i + n → meetM (f i) (f (i + 1)) (f j) (f (j + 1)) = false

theorem cor_am (r : List Pt) (i t : Nat) : cor r (i + r.length * t) = cor r i := by unfold cor; rw [Nat.add_mul_mod_self_left]

theorem cor_mm (r : List Pt) (i k : Nat) : cor r (i % r.length + k) = cor r (i + k) := by unfold cor; rw [Nat.mod_add_mod]

theorem sidesF_no {r : List Pt} (h : sidesF r = 0) {i : Nat} (hi : i < r.length) : badI r i = false := by
  unfold sidesF at h
  by_cases hb : (List.range r.length).any (badI r) = true
  · rw [if_pos hb] at h; cases h
  · rw [Bool.not_eq_true, List.any_eq_false] at hb
    have := hb i (List.mem_range.2 hi)
    simpa using this

theorem rr_of {r : List Pt} (h : ringF r = 0) : RR r.length (cor r) := by
  obtain ⟨h3, -, -, ht, hs⟩ := ringF_ok h
  have hpos : 0 < r.length := by omega
  have hbad : ∀ i, badI r (i % r.length) = false := fun i => sidesF_no hs (Nat.mod_lt i hpos)
  refine ⟨h3, cor_mod r, fun i j hij hjn e => ?_, fun i => ?_, fun i j hij hjn => ?_⟩
  · have hne : i % r.length ≠ j % r.length := fun q => by
      have := Nat.sub_mod_eq_zero_of_mod_eq q.symm
      rw [Nat.mod_eq_of_lt (by omega)] at this
      omega
    have e' : cor r (i % r.length) = cor r (j % r.length) := by
      have h1 := cor_mm r i 0
      have h2 := cor_mm r j 0
      simp only [Nat.add_zero] at h1 h2
      rw [h1, h2]; exact e
    rcases Nat.lt_or_gt_of_ne hne with hl | hl
    · exact twice_ne ht (Nat.mod_lt j hpos) hl e'
    · exact twice_ne ht (Nat.mod_lt i hpos) hl e'.symm
  · have hb := hbad i
    unfold badI at hb
    rw [Bool.or_eq_false_iff] at hb
    have := hb.1
    rw [cor_mm, cor_mm] at this
    have h0 := cor_mm r i 0
    simp only [Nat.add_zero] at h0
    rwa [h0] at this
  · have hm := Nat.mod_lt i hpos
    have e0 := cor_mm r i 0
    simp only [Nat.add_zero] at e0
    have e1 := cor_mm r i 1
    have e2 := cor_mm r i (j - i)
    have e3 := cor_mm r i (j + 1 - i)
    rw [show i + (j - i) = j by omega] at e2
    rw [show i + (j + 1 - i) = j + 1 by omega] at e3
    rw [← e0, ← e1, ← e2, ← e3]
    generalize ha : i % r.length = a at *
    by_cases hk : a + (j - i) < r.length
    · have hb := hbad i
      rw [ha] at hb
      unfold badI at hb
      rw [Bool.or_eq_false_iff, List.any_eq_false] at hb
      have := hb.2 (a + (j - i)) (List.mem_range.2 hk)
      unfold sidesM at this
      rw [decide_eq_true (by omega), Bool.true_and, Bool.not_eq_true] at this
      rw [show a + (j + 1 - i) = a + (j - i) + 1 by omega]
      exact this
    · obtain ⟨k, hke⟩ : ∃ k, a + (j - i) = k + r.length := ⟨a + (j - i) - r.length, by omega⟩
      have hb := sidesF_no hs (show k < r.length by omega)
      unfold badI at hb
      rw [Bool.or_eq_false_iff, List.any_eq_false] at hb
      have := hb.2 a (List.mem_range.2 hm)
      unfold sidesM at this
      rw [decide_eq_true (by omega), Bool.true_and, Bool.not_eq_true] at this
      rw [show a + (j + 1 - i) = k + 1 + r.length by omega, hke, cor_mod, cor_mod]
      exact meetM_f_sym this

theorem ringF_of {r : List Pt} (hl : r.length ≤ 500) (hb : r.any farP = false) (h : RR r.length (cor r)) : ringF r = 0 := by
  have h3 := h.n3
  have ht : twiceB r = false := any_no fun k hk => by
    rw [decide_eq_false_iff_not]
    intro hm
    obtain ⟨i, hi, e⟩ := List.mem_take_iff_getElem.1 hm
    have : cor r i = cor r k := by rw [cor_lt (by omega)]; exact e
    exact h.inj i k (by omega) (by omega) this
  have hs : sidesF r = 0 := by
    unfold sidesF
    rw [any_no fun i hi => ?_]
    · rfl
    · unfold badI
      rw [h.fold i, Bool.false_or]
      refine any_no fun k hk => ?_
      unfold sidesM
      by_cases hd : i + 2 ≤ k ∧ ¬(i = 0 ∧ k + 1 = r.length)
      · rw [h.side i k (by omega) (by omega), Bool.and_false]
      · rw [decide_eq_false hd, Bool.false_and]
  unfold ringF
  rw [if_neg (by omega), if_neg (by omega), hb, ht, if_neg (by decide), if_neg (by decide)]
  exact hs

def vecF (f : Nat → Pt) (k : Nat) : Pt := subP (f (k + 1)) (f k)

def dblP (a b : Pt) : Int := a.x * b.y - a.y * b.x

theorem sub_zero (a : Pt) : ∀ u, ¬ parV u (subP a a) := by
  intro u h
  have := h.2
  have e : doV u (subP a a) = 0 := by unfold doV subP; simp
  omega

theorem sub_ne {a b : Pt} (h : a ≠ b) : (subP b a).x ≠ 0 ∨ (subP b a).y ≠ 0 := by
  unfold subP; simp only
  rcases Classical.em (b.x - a.x = 0) with k | k
  · refine .inr fun k2 => h ?_
    cases a; cases b; simp only [Pt.mk.injEq] at *; omega
  · exact .inl k

theorem vec_self {n : Nat} {f : Nat → Pt} (R : RR n f) (s : Nat) : parV (vecF f s) (vecF f s) :=
  ⟨by unfold crV; rw [Int.mul_comm]; omega, doV_self (sub_ne (R.inj s (s + 1) (by omega) (by have := R.n3; omega)))⟩
/-- the corner's turn -/
def tzF (n : Nat) (f : Nat → Pt) (k : Nat) : Int := turnP (f (k + n - 1)) (f k) (f (k + 1))

theorem tz_pos {n : Nat} {f : Nat → Pt} (R : RR n f) (k : Nat) : tzF n f (k + 1) = turnP (f k) (f (k + 1)) (f (k + 2)) := by
  unfold tzF; rw [show k + 1 + n - 1 = k + n by omega, R.per]

theorem par_step {n : Nat} {f : Nat → Pt} (R : RR n f) {k : Nat} (h : tzF n f (k + 1) = 0) : parV (vecF f k) (vecF f (k + 1)) := by
  have := R.n3
  rw [tz_pos R] at h
  exact par_of h (R.fold k) (R.inj _ _ (by omega) (by omega)) (R.inj _ _ (by omega) (by omega))

theorem tz_per {n : Nat} {f : Nat → Pt} (R : RR n f) (k : Nat) : tzF n f (k + n) = tzF n f k := by
  have := R.n3
  unfold tzF
  rw [show k + n + n - 1 = k + n - 1 + n by omega, R.per, R.per, show k + n + 1 = k + 1 + n by omega, R.per]
/-- a way over straight corners -/
theorem chain_way {n : Nat} {f : Nat → Pt} (R : RR n f) (s : Nat) : ∀ d, 1 ≤ d → (∀ k, s < k → k < s + d → tzF n f k = 0) →
    parV (vecF f s) (subP (f (s + d)) (f s)) ∧ parV (vecF f s) (vecF f (s + d - 1)) ∧ (∀ p q, meetM (f s) (f (s + d)) p q = true → ∃ k, k < d ∧ meetM (f (s + k)) (f (s + k + 1)) p q = true)
  | 0, h, _ => absurd h (by omega)
  | 1, _, _ => ⟨vec_self R s, by rw [show s + 1 - 1 = s by omega]; exact vec_self R s, fun p q h => ⟨0, by omega, h⟩⟩
  | d + 2, _, hz => by
    obtain ⟨i1, i2, i3⟩ := chain_way R s (d + 1) (by omega) (fun k h1 h2 => hz k h1 (by omega))
    have hp := par_step R (k := s + d) (hz (s + d + 1) (by omega) (by omega))
    rw [show s + (d + 1) - 1 = s + d by omega] at i2
    have hv : parV (vecF f s) (vecF f (s + d + 1)) := parV_trans i2 hp
    have h : parV (subP (f (s + (d + 1))) (f s)) (subP (f (s + (d + 2))) (f (s + (d + 1)))) := parV_trans (parV_symm i1) hv
    refine ⟨parV_trans i1 (par_long h), hv, fun p q hm => ?_⟩
    rcases meet_split h hm with k | k
    · obtain ⟨j, h1, h2⟩ := i3 p q k
      exact ⟨j, by omega, h2⟩
    · exact ⟨d + 1, by omega, k⟩
/-- what adds up along straight ways -/
theorem chain_sum {n : Nat} {f : Nat → Pt} (R : RR n f) {G : Type} {op : G → G → G} {e : G} (hc : CM op e) (D : Pt → Pt → G) (hD : ∀ a b c, parV (subP b a) (subP c b) → D a c = op (D a b) (D b c)) (s : Nat) :
    ∀ d, 1 ≤ d → (∀ k, s < k → k < s + d → tzF n f k = 0) → D (f s) (f (s + d)) = foldW op e (fun i => D (f i) (f (i + 1))) s d
  | 0, h, _ => absurd h (by omega)
  | 1, _, _ => (foldW_one hc (fun i => D (f i) (f (i + 1))) s).symm
  | d + 2, _, hz => by
    obtain ⟨i1, i2, -⟩ := chain_way R s (d + 1) (by omega) (fun k h1 h2 => hz k h1 (by omega))
    have hp := par_step R (k := s + d) (hz (s + d + 1) (by omega) (by omega))
    rw [show s + (d + 1) - 1 = s + d by omega] at i2
    have h : parV (subP (f (s + (d + 1))) (f s)) (subP (f (s + (d + 2))) (f (s + (d + 1)))) := parV_trans (parV_symm i1) (parV_trans i2 hp)
    rw [show D (f s) (f (s + (d + 2))) = _ from hD _ _ _ h, chain_sum R hc D hD s (d + 1) (by omega) (fun k h1 h2 => hz k h1 (by omega))]
    rfl

theorem dbl_par {a b c : Pt} (h : parV (subP b a) (subP c b)) : dblP a c = dblP a b + dblP b c := by
  have hz := h.1
  unfold crV subP at hz
  unfold dblP
  grind
/-- the corners that are not straight -/
def keepI (r : List Pt) : List Nat := (List.range r.length).filter fun k => decide (tzF r.length (cor r) k ≠ 0)

def simpR (r : List Pt) : List Pt := (keepI r).map (cor r)

def sgI (r : List Pt) (i : Nat) : Nat := (keepI r).getD (i % (keepI r).length) 0 + r.length * (i / (keepI r).length)

theorem keep_lt {r : List Pt} {k : Nat} (h : k ∈ keepI r) : k < r.length ∧ tzF r.length (cor r) k ≠ 0 := by
  unfold keepI at h
  rw [List.mem_filter, List.mem_range, decide_eq_true_eq] at h
  exact h

theorem keep_not {r : List Pt} {k : Nat} (hk : k < r.length) (h : k ∉ keepI r) : tzF r.length (cor r) k = 0 := by
  by_cases e : tzF r.length (cor r) k = 0
  · exact e
  · exact absurd (by unfold keepI; rw [List.mem_filter, List.mem_range, decide_eq_true_eq]; exact ⟨hk, e⟩) h

theorem keep_mono (r : List Pt) : ∀ i j (hi : i < (keepI r).length) (hj : j < (keepI r).length), i < j → (keepI r)[i] < (keepI r)[j] :=
  List.pairwise_iff_getElem.1 (List.pairwise_lt_range.filter _)

theorem keep_inv (r : List Pt) {i j : Nat} (hi : i < (keepI r).length) (hj : j < (keepI r).length) (h : (keepI r)[i] < (keepI r)[j]) : i < j := by
  rcases Nat.lt_trichotomy i j with k | k | k
  · exact k
  · subst k; omega
  · have := keep_mono r j i hj hi k; omega

theorem tz_am {r : List Pt} (R : RR r.length (cor r)) (k : Nat) : ∀ t, tzF r.length (cor r) (k + r.length * t) = tzF r.length (cor r) k
  | 0 => rfl
  | t + 1 => by rw [Nat.mul_add, Nat.mul_one, ← Nat.add_assoc, tz_per R, tz_am R k t]

theorem dm_of {m q t : Nat} (h : t < m) : (m * q + t) % m = t ∧ (m * q + t) / m = q :=
  ⟨by rw [Nat.mul_add_mod, Nat.mod_eq_of_lt h], by rw [Nat.mul_add_div (by omega), Nat.div_eq_of_lt h, Nat.add_zero]⟩

theorem sg_at (r : List Pt) {q t : Nat} (h : t < (keepI r).length) : sgI r ((keepI r).length * q + t) = (keepI r)[t] + r.length * q := by
  unfold sgI
  rw [(dm_of h).1, (dm_of h).2, List.getD_eq_getElem?_getD, List.getElem?_eq_getElem h, Option.getD_some]

theorem dm_ex {m : Nat} (hm : 0 < m) (i : Nat) : ∃ q t, i = m * q + t ∧ t < m := ⟨i / m, i % m, by rw [Nat.div_add_mod], Nat.mod_lt i hm⟩

theorem sg_keep {r : List Pt} (R : RR r.length (cor r)) (hm : 0 < (keepI r).length) (i : Nat) : tzF r.length (cor r) (sgI r i) ≠ 0 := by
  obtain ⟨q, t, rfl, ht⟩ := dm_ex hm i
  rw [sg_at r ht, tz_am R]
  exact (keep_lt (List.getElem_mem ht)).2

theorem sg_per {r : List Pt} (hm : 0 < (keepI r).length) (i : Nat) : sgI r (i + (keepI r).length) = sgI r i + r.length := by
  obtain ⟨q, t, rfl, ht⟩ := dm_ex hm i
  rw [show (keepI r).length * q + t + (keepI r).length = (keepI r).length * (q + 1) + t by rw [Nat.mul_add]; omega, sg_at r ht, sg_at r ht, Nat.mul_add]; omega

theorem sg_step {r : List Pt} (R : RR r.length (cor r)) (hm : 0 < (keepI r).length) (i : Nat) : sgI r i < sgI r (i + 1) ∧ ∀ k, sgI r i < k → k < sgI r (i + 1) → tzF r.length (cor r) k = 0 := by
  obtain ⟨q, t, rfl, ht⟩ := dm_ex hm i
  have n3 := R.n3
  rw [sg_at r ht]
  by_cases h1 : t + 1 < (keepI r).length
  · rw [show (keepI r).length * q + t + 1 = (keepI r).length * q + (t + 1) by omega, sg_at r h1]
    have hlt := keep_mono r t (t + 1) ht h1 (by omega)
    refine ⟨by omega, fun k k1 k2 => ?_⟩
    obtain ⟨k', rfl⟩ : ∃ k', k = k' + r.length * q := ⟨k - r.length * q, by omega⟩
    rw [tz_am R]
    have hb := (keep_lt (List.getElem_mem h1)).1
    refine keep_not (by omega) fun hmem => ?_
    obtain ⟨j, hj, e⟩ := List.mem_iff_getElem.1 hmem
    have a1 := keep_inv r ht hj (by omega)
    have a2 := keep_inv r hj h1 (by omega)
    omega
  · have h2 : t + 1 = (keepI r).length := by omega
    rw [show (keepI r).length * q + t + 1 = (keepI r).length * (q + 1) + 0 by rw [Nat.mul_add]; omega, sg_at r hm]
    have hb := (keep_lt (List.getElem_mem ht)).1
    have hb0 := (keep_lt (List.getElem_mem hm)).1
    rw [Nat.mul_add, Nat.mul_one]
    refine ⟨by omega, fun k k1 k2 => ?_⟩
    obtain ⟨k', rfl⟩ : ∃ k', k = k' + r.length * q := ⟨k - r.length * q, by omega⟩
    rw [tz_am R]
    by_cases hk : k' < r.length
    · refine keep_not hk fun hmem => ?_
      obtain ⟨j, hj, e⟩ := List.mem_iff_getElem.1 hmem
      have a1 := keep_inv r ht hj (by omega)
      omega
    · obtain ⟨k2', rfl⟩ : ∃ x, k' = x + r.length := ⟨k' - r.length, by omega⟩
      rw [tz_per R]
      refine keep_not (by omega) fun hmem => ?_
      obtain ⟨j, hj, e⟩ := List.mem_iff_getElem.1 hmem
      have a2 := keep_inv r hj hm (by omega)
      omega

theorem sg_lt {r : List Pt} (R : RR r.length (cor r)) (hm : 0 < (keepI r).length) {i : Nat} : ∀ {j : Nat}, i < j → sgI r i < sgI r j
  | 0, h => absurd h (by omega)
  | j + 1, h => by
    have h1 := (sg_step R hm j).1
    rcases Nat.lt_or_ge i j with k | k
    · have := sg_lt R hm k; omega
    · rw [show i = j by omega]; exact h1

theorem loop_no {n : Nat} {f : Nat → Pt} (R : RR n f) (s : Nat) (hz : ∀ k, s < k → k < s + n → tzF n f k = 0) : False := by
  have h := (chain_way R s n (by have := R.n3; omega) hz).1
  rw [R.per] at h
  exact sub_zero _ _ h

theorem keep3 {r : List Pt} (R : RR r.length (cor r)) : 3 ≤ (keepI r).length := by
  have n3 := R.n3
  rcases Nat.eq_zero_or_pos (keepI r).length with h0 | hm
  · exfalso
    refine loop_no R 0 fun k k1 k2 => keep_not (by omega) fun hmem => ?_
    rw [List.eq_nil_of_length_eq_zero h0] at hmem
    cases hmem
  · have s1 := sg_step R hm 0
    have s2 := sg_step R hm 1
    have s3 := sg_step R hm 2
    rcases Nat.lt_trichotomy (keepI r).length 2 with h | h | h
    · exfalso
      have hp := sg_per hm 0
      rw [show 0 + (keepI r).length = 0 + 1 by omega] at hp
      refine loop_no R (sgI r 0) fun k k1 k2 => s1.2 k k1 (by omega)
    · exfalso
      have hp := sg_per hm 0
      rw [show 0 + (keepI r).length = 0 + 1 + 1 by omega] at hp
      have hk := sg_keep R hm 1
      obtain ⟨d1, e1⟩ : ∃ d, sgI r (0 + 1) = sgI r 0 + d := ⟨sgI r (0 + 1) - sgI r 0, by omega⟩
      obtain ⟨d2, e2⟩ : ∃ d, sgI r (1 + 1) = sgI r 1 + d := ⟨sgI r (1 + 1) - sgI r 1, by omega⟩
      obtain ⟨c1, c2, -⟩ := chain_way R (sgI r 0) d1 (by omega) (fun k k1 k2 => s1.2 k k1 (by omega))
      obtain ⟨c3, -, -⟩ := chain_way R (sgI r 1) d2 (by omega) (fun k k1 k2 => s2.2 k k1 (by omega))
      rw [← e1] at c1 c2
      rw [← e2, show sgI r (1 + 1) = sgI r 0 + r.length from hp, cor_mod] at c3
      have c4 := parV_trans (parV_symm c2) c1
      have hs := ssg_zero (par_cr2 c4 c3)
      apply hk
      have s1' : sgI r 0 < sgI r 1 := s1.1
      obtain ⟨u, hu⟩ : ∃ u, sgI r 1 = u + 1 := ⟨sgI r 1 - 1, by omega⟩
      rw [show (0 + 1 : Nat) = 1 from rfl] at hs
      rw [hu] at hs ⊢
      rw [tz_pos R, turn_cr2]
      refine hs.2 ?_
      unfold crV subP; grind
    · omega

theorem chain_sg {r : List Pt} (R : RR r.length (cor r)) (hm : 0 < (keepI r).length) (i : Nat) :
    parV (vecF (cor r) (sgI r i)) (subP (cor r (sgI r (i + 1))) (cor r (sgI r i))) ∧ parV (vecF (cor r) (sgI r i)) (vecF (cor r) (sgI r (i + 1) - 1)) ∧
    (∀ p q, meetM (cor r (sgI r i)) (cor r (sgI r (i + 1))) p q = true → ∃ k, sgI r i ≤ k ∧ k < sgI r (i + 1) ∧ meetM (cor r k) (cor r (k + 1)) p q = true) := by
  have s1 := sg_step R hm i
  obtain ⟨d, e⟩ : ∃ d, sgI r (i + 1) = sgI r i + d := ⟨sgI r (i + 1) - sgI r i, by omega⟩
  obtain ⟨c1, c2, c3⟩ := chain_way R (sgI r i) d (by omega) (fun k k1 k2 => s1.2 k k1 (by omega))
  rw [e]
  refine ⟨c1, c2, fun p q h => ?_⟩
  obtain ⟨k, h1, h2⟩ := c3 p q h
  exact ⟨sgI r i + k, by omega, by omega, h2⟩

theorem sg_turn {r : List Pt} (R : RR r.length (cor r)) (hm : 0 < (keepI r).length) (i : Nat) : turnP (cor r (sgI r i)) (cor r (sgI r (i + 1))) (cor r (sgI r (i + 2))) ≠ 0 := by
  obtain ⟨c1, c2, -⟩ := chain_sg R hm i
  obtain ⟨c3, -, -⟩ := chain_sg R hm (i + 1)
  have hk := sg_keep R hm (i + 1)
  have s1 := (sg_step R hm i).1
  have c4 := parV_trans (parV_symm c2) c1
  have hs := ssg_zero (par_cr2 c4 c3)
  obtain ⟨u, hu⟩ : ∃ u, sgI r (i + 1) = u + 1 := ⟨sgI r (i + 1) - 1, by omega⟩
  intro e
  apply hk
  rw [turn_cr2] at e
  have := hs.2 e
  rw [hu] at this ⊢
  rw [tz_pos R, turn_cr2]
  exact this
/-- the ring of the corners that are not straight is right -/
theorem rr_sg {r : List Pt} (R : RR r.length (cor r)) : RR (keepI r).length (fun i => cor r (sgI r i)) := by
  have h3 := keep3 R
  have hm : 0 < (keepI r).length := by omega
  refine ⟨h3, fun i => ?_, fun i j hij hjn => ?_, fun i => ?_, fun i j hij hjn => ?_⟩
  · show cor r (sgI r (i + (keepI r).length)) = _
    rw [sg_per hm, cor_mod]
  · have a1 := sg_lt R hm hij
    have a2 := sg_lt R hm hjn
    rw [sg_per hm] at a2
    exact R.inj _ _ a1 a2
  · have := sg_turn R hm i
    show foldB (cor r (sgI r (i + 1))) (cor r (sgI r i)) (cor r (sgI r (i + 2))) = false
    unfold foldB
    rw [decide_eq_false (by rw [turn_flip]; omega), Bool.false_and]
  · show meetM (cor r (sgI r i)) (cor r (sgI r (i + 1))) (cor r (sgI r j)) (cor r (sgI r (j + 1))) = false
    rw [Bool.eq_false_iff]
    intro h
    obtain ⟨a, a1, a2, ha⟩ := (chain_sg R hm i).2.2 _ _ h
    obtain ⟨b, b1, b2, hb⟩ := (chain_sg R hm j).2.2 _ _ ((meetM_sym _ _ _ _).1 ha)
    have k1 := sg_lt R hm (show i + 1 < j by omega)
    have k2 := sg_lt R hm (show j + 1 < i + (keepI r).length by omega)
    rw [sg_per hm] at k2
    have := meetM_f_sym (R.side a b (by omega) (by omega))
    rw [this] at hb
    cases hb

theorem cor_simp {r : List Pt} (hm : 0 < (keepI r).length) (i : Nat) : cor (simpR r) i = cor r (sgI r i) := by
  obtain ⟨q, t, rfl, ht⟩ := dm_ex hm i
  rw [sg_at r ht, cor_am]
  have hl : (simpR r).length = (keepI r).length := by unfold simpR; rw [List.length_map]
  unfold cor
  rw [hl, (dm_of ht).1]
  unfold simpR
  rw [List.getD_eq_getElem?_getD, List.getElem?_eq_getElem (by rw [List.length_map]; exact ht), Option.getD_some, List.getElem_map]
  rfl

theorem simp_len (r : List Pt) : (simpR r).length = (keepI r).length ∧ (simpR r).length ≤ r.length := by
  have : (keepI r).length ≤ r.length := by
    have := List.length_filter_le (fun k => decide (tzF r.length (cor r) k ≠ 0)) (List.range r.length)
    rw [List.length_range] at this
    exact this
  unfold simpR; rw [List.length_map]; exact ⟨rfl, this⟩

theorem rr_simp {r : List Pt} (R : RR r.length (cor r)) : RR (simpR r).length (cor (simpR r)) := by
  have h3 := keep3 R
  have e : cor (simpR r) = fun i => cor r (sgI r i) := funext fun i => cor_simp (by omega) i
  rw [(simp_len r).1, e]
  exact rr_sg R

theorem simp_sub {r : List Pt} (h : 0 < r.length) : ∀ p ∈ simpR r, p ∈ r := by
  intro p hp
  unfold simpR at hp
  obtain ⟨k, _, rfl⟩ := List.mem_map.1 hp
  exact cor_mem h k

theorem simp_ok {r : List Pt} (h : ringF r = 0) : ringF (simpR r) = 0 := by
  obtain ⟨h3, h5, -, -, -⟩ := ringF_ok h
  refine ringF_of (Nat.le_trans (simp_len r).2 h5) ?_ (rr_simp (rr_of h))
  have hf : r.any farP = false := by
    unfold ringF at h
    rw [if_neg (by omega), if_neg (by omega)] at h
    by_cases k : r.any farP = true
    · rw [if_pos k] at h; cases h
    · simpa using k
  rw [List.any_eq_false] at *
  exact fun p hp => hf p (simp_sub (by omega) p hp)
/-- no corner is left on a straight line -/
theorem simp_simp {r : List Pt} (h : ringF r = 0) : simpR (simpR r) = simpR r := by
  have R := rr_of h
  have h3 := keep3 R
  have hm : 0 < (keepI r).length := by omega
  have R2 := rr_simp R
  have hl := (simp_len r).1
  have hk : keepI (simpR r) = List.range (simpR r).length := by
    unfold keepI
    rw [List.filter_eq_self]
    intro k _
    rw [decide_eq_true_eq]
    have hp := tz_per R2 k
    rw [← hp]
    obtain ⟨u, hu⟩ : ∃ u, k + (simpR r).length = u + 1 := ⟨k + (simpR r).length - 1, by omega⟩
    rw [hu, tz_pos R2, cor_simp hm, cor_simp hm, cor_simp hm]
    exact sg_turn R hm u
  have : simpR (simpR r) = (List.range (simpR r).length).map (cor (simpR r)) := by
    show (keepI (simpR r)).map (cor (simpR r)) = _
    rw [hk]
  rw [this]
  apply List.ext_getElem
  · simp
  · intro i h1 h2
    rw [List.getElem_map, List.getElem_range, cor_lt h2]
/-- what adds up over the sides of a ring -/
theorem simp_sum {r : List Pt} (h : ringF r = 0) {G : Type} {op : G → G → G} {e : G} (hc : CM op e) (D : Pt → Pt → G) (hD : ∀ a b c, parV (subP b a) (subP c b) → D a c = op (D a b) (D b c)) :
    foldW op e (fun i => D (cor (simpR r) i) (cor (simpR r) (i + 1))) 0 (simpR r).length = foldW op e (fun i => D (cor r i) (cor r (i + 1))) 0 r.length := by
  have R := rr_of h
  have h3 := keep3 R
  have hm : 0 < (keepI r).length := by omega
  have hF : (fun i => D (cor (simpR r) i) (cor (simpR r) (i + 1))) = fun i => foldW op e (fun i => D (cor r i) (cor r (i + 1))) (sgI r i) (sgI r (i + 1) - sgI r i) := by
    funext i
    have s1 := sg_step R hm i
    obtain ⟨d, e'⟩ : ∃ d, sgI r (i + 1) = sgI r i + d := ⟨sgI r (i + 1) - sgI r i, by omega⟩
    have := chain_sum R hc D hD (sgI r i) d (by omega) (fun k k1 k2 => s1.2 k k1 (by omega))
    rw [cor_simp hm, cor_simp hm, e', show sgI r i + d - sgI r i = d by omega]
    exact this
  have hp := sg_per hm 0
  rw [Nat.zero_add] at hp
  rw [hF, (simp_len r).1, (foldW_seg hc (fun i => D (cor r i) (cor r (i + 1))) (sgI r) (fun i => (sg_step R hm i).1) (keepI r).length).2, hp, show sgI r 0 + r.length - sgI r 0 = r.length by omega]
  refine foldW_rot hc _ (fun i => ?_) _
  show D (cor r (i + r.length)) (cor r (i + r.length + 1)) = _
  rw [show i + r.length + 1 = i + 1 + r.length by omega, cor_mod, cor_mod]

theorem isInK_fold (r : List Pt) (p : Pt) : ∀ k, isInK r p k = foldW Bool.xor false (fun i => crs (cor r i) (cor r (i + 1)) p) 0 k
  | 0 => rfl
  | k + 1 => by
    rw [isInK_xor, isInK_fold r p k]
    show _ = Bool.xor _ (crs (cor r (0 + k)) (cor r (0 + k + 1)) p)
    rw [Nat.zero_add]; rfl

theorem dblK_fold (r : List Pt) : ∀ k, dblK r k = foldW (fun a b : Int => a + b) 0 (fun i => dblP (cor r i) (cor r (i + 1))) 0 k
  | 0 => rfl
  | k + 1 => by
    show dblK r k + _ = (foldW (fun a b : Int => a + b) 0 _ 0 k) + dblP (cor r (0 + k)) (cor r (0 + k + 1))
    rw [dblK_fold r k, Nat.zero_add]; rfl

theorem simp_isIn {r : List Pt} (h : ringF r = 0) (p : Pt) : isInF (simpR r) p = isInF r p := by
  unfold isInF
  rw [isInK_fold, isInK_fold]
  exact simp_sum h cm_xor (fun a b => crs a b p) (fun a b c k => crs_split k p)

theorem simp_dbl {r : List Pt} (h : ringF r = 0) : dblF (simpR r) = dblF r := by
  unfold dblF
  rw [dblK_fold, dblK_fold]
  exact simp_sum h cm_add dblP (fun a b c k => dbl_par k)

end Go.Proofs.Ytmhnjpcjagbdhaa
