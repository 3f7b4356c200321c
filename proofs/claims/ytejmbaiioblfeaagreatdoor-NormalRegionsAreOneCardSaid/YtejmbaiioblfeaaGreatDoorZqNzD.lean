/- Contracts of functions that this seat's laws reach, each: what one call returns and what it leaves in memory; no condition beyond each theorem's own hypotheses. -/
import Derived.Test.YtejmbaiioblfeaaGreatDoorZqGeoA
import Derived.Test.YtejmbaiioblfeaaGreatDoorZqRegH
set_option linter.unusedVariables false
set_option linter.unusedSimpArgs false
namespace Go.Proofs.YtejmbaiioblfeaaGreatDoor
open Go Go.RowKit Go.Bl

def crs (a b p : Pt) : Bool := (decide (a.y > p.y) != decide (b.y > p.y)) && (decide (turnP a b p > 0) == decide (b.y > a.y))

theorem crossG_eq (r : List Pt) (p : Pt) (i : Nat) : crossG r p i = crs (cor r i) (cor r (i + 1)) p := rfl

theorem turn_xl (a b p : Pt) : turnP a b p = -((p.x - b.x) * (p.y - a.y) + (p.x - a.x) * (b.y - p.y)) := by unfold turnP; grind

theorem two_pos {x y m n : Int} (hx : 0 < x) (hy : 0 < y) (hm : 0 ≤ m) (hn : 0 ≤ n) (h : 0 < m + n) : 0 < x * m + y * n := by
  have h1 := Int.mul_nonneg (Int.le_of_lt hx) hm
  have h2 := Int.mul_nonneg (Int.le_of_lt hy) hn
  by_cases k : 0 < m
  · have := Int.mul_pos hx k; omega
  · have := Int.mul_pos hy (show 0 < n by omega); omega

theorem xl {a b p : Pt} (h : a.y < b.y) (h1 : a.y ≤ p.y) (h2 : p.y ≤ b.y) (k1 : a.x < p.x) (k2 : b.x < p.x) : turnP a b p < 0 := by
  have e := turn_xl a b p
  have := two_pos (x := p.x - b.x) (y := p.x - a.x) (m := p.y - a.y) (n := b.y - p.y) (by omega) (by omega) (by omega) (by omega) (by omega)
  omega

theorem xr {a b p : Pt} (h : a.y < b.y) (h1 : a.y ≤ p.y) (h2 : p.y ≤ b.y) (k1 : p.x < a.x) (k2 : p.x < b.x) : 0 < turnP a b p := by
  have e : turnP a b p = (b.x - p.x) * (p.y - a.y) + (a.x - p.x) * (b.y - p.y) := by unfold turnP; grind
  have := two_pos (x := b.x - p.x) (y := a.x - p.x) (m := p.y - a.y) (n := b.y - p.y) (by omega) (by omega) (by omega) (by omega) (by omega)
  omega
/-- where both ways are, a b is on the left of p q -/
def Lft (a b p q : Pt) : Prop := (a.y < b.y → a.y ≤ p.y → p.y ≤ b.y → turnP a b p < 0) ∧ (a.y < b.y → a.y ≤ q.y → q.y ≤ b.y → turnP a b q < 0) ∧
  (p.y < q.y → p.y ≤ a.y → a.y ≤ q.y → 0 < turnP p q a) ∧ (p.y < q.y → p.y ≤ b.y → b.y ≤ q.y → 0 < turnP p q b)

theorem lft_x {a b p q : Pt} (h : max a.x b.x < min p.x q.x) : Lft a b p q :=
  ⟨fun h1 h2 h3 => xl h1 h2 h3 (by omega) (by omega), fun h1 h2 h3 => xl h1 h2 h3 (by omega) (by omega), fun h1 h2 h3 => xr h1 h2 h3 (by omega) (by omega), fun h1 h2 h3 => xr h1 h2 h3 (by omega) (by omega)⟩

theorem pos_of_mul' {a b : Int} (hb : 0 ≤ b) (h : 0 < b * a) : 0 < a := by
  rcases Int.lt_trichotomy a 0 with k | k | k
  · have := Int.mul_nonpos_of_nonneg_of_nonpos hb (Int.le_of_lt k); omega
  · rw [k, Int.mul_zero] at h; omega
  · exact k

theorem lft_t {a b p q : Pt} (hab : a.y ≤ b.y) (h1 : turnP a b p < 0) (h2 : turnP a b q < 0) : Lft a b p q := by
  refine ⟨fun _ _ _ => h1, fun _ _ _ => h2, fun h3 h4 h5 => ?_, fun h3 h4 h5 => ?_⟩
  · have e := sideY p q a b
    have k := two_pos (x := -turnP a b p) (y := -turnP a b q) (m := q.y - a.y) (n := a.y - p.y) (by omega) (by omega) (by omega) (by omega) (by omega)
    refine pos_of_mul' (b := b.y - a.y) (by omega) ?_
    have e' : (b.y - a.y) * turnP p q a = -turnP a b p * (q.y - a.y) + -turnP a b q * (a.y - p.y) := by grind
    rw [e']; exact k
  · have e := sideY p q b a
    have f1 := turn_flip a b p
    have f2 := turn_flip a b q
    have k := two_pos (x := -turnP a b p) (y := -turnP a b q) (m := q.y - b.y) (n := b.y - p.y) (by omega) (by omega) (by omega) (by omega) (by omega)
    refine pos_of_mul' (b := b.y - a.y) (by omega) ?_
    have e' : (b.y - a.y) * turnP p q b = -turnP a b p * (q.y - b.y) + -turnP a b q * (b.y - p.y) := by rw [f1, f2] at e; grind
    rw [e']; exact k

theorem lft_t' {a b p q : Pt} (hab : a.y ≤ b.y) (h1 : 0 < turnP a b p) (h2 : 0 < turnP a b q) : Lft p q a b := by
  refine ⟨fun h3 h4 h5 => ?_, fun h3 h4 h5 => ?_, fun _ _ _ => h1, fun _ _ _ => h2⟩
  · have e := sideY p q a b
    have k := two_pos (x := turnP a b p) (y := turnP a b q) (m := q.y - a.y) (n := a.y - p.y) (by omega) (by omega) (by omega) (by omega) (by omega)
    have := pos_of_mul' (a := -turnP p q a) (b := b.y - a.y) (by omega) (by
      have e' : (b.y - a.y) * -turnP p q a = turnP a b p * (q.y - a.y) + turnP a b q * (a.y - p.y) := by grind
      rw [e']; exact k)
    omega
  · have e := sideY p q b a
    have f1 := turn_flip a b p
    have f2 := turn_flip a b q
    have k := two_pos (x := turnP a b p) (y := turnP a b q) (m := q.y - b.y) (n := b.y - p.y) (by omega) (by omega) (by omega) (by omega) (by omega)
    have := pos_of_mul' (a := -turnP p q b) (b := b.y - a.y) (by omega) (by
      have e' : (b.y - a.y) * -turnP p q b = turnP a b p * (q.y - b.y) + turnP a b q * (b.y - p.y) := by rw [f1, f2] at e; grind
      rw [e']; exact k)
    omega

theorem lft_y {a b p q : Pt} (hab : a.y ≤ b.y) (hpq : p.y ≤ q.y) (h : b.y < p.y ∨ q.y < a.y) : Lft a b p q :=
  ⟨fun _ _ _ => by omega, fun _ _ _ => by omega, fun _ _ _ => by omega, fun _ _ _ => by omega⟩

theorem sep {a b p q : Pt} (hm : meetM a b p q = false) (hab : a.y ≤ b.y) (hpq : p.y ≤ q.y) : Lft a b p q ∨ Lft p q a b := by
  have h := fun k => Bool.eq_false_iff.1 hm (meetM_iff.2 k)
  by_cases x1 : max a.x b.x < min p.x q.x
  · exact .inl (lft_x x1)
  by_cases x2 : max p.x q.x < min a.x b.x
  · exact .inr (lft_x x2)
  by_cases y1 : b.y < p.y ∨ q.y < a.y
  · exact .inl (lft_y hab hpq y1)
  by_cases t1 : turnP a b p < 0 ∧ turnP a b q < 0
  · exact .inl (lft_t hab t1.1 t1.2)
  by_cases t2 : 0 < turnP a b p ∧ 0 < turnP a b q
  · exact .inr (lft_t' hab t2.1 t2.2)
  by_cases t3 : turnP p q a < 0 ∧ turnP p q b < 0
  · exact .inr (lft_t hpq t3.1 t3.2)
  by_cases t4 : 0 < turnP p q a ∧ 0 < turnP p q b
  · exact .inl (lft_t' hpq t4.1 t4.2)
  exact absurd ⟨⟨by omega, by omega⟩, by omega, by omega⟩ h

theorem crs_iff {a b p : Pt} : crs a b p = true ↔ ¬ (a.y > p.y ↔ b.y > p.y) ∧ (turnP a b p > 0 ↔ b.y > a.y) := by
  unfold crs
  rw [Bool.and_eq_true, bne_iff_ne, beq_iff_eq, decide_eq_decide, ne_eq, decide_eq_decide]
/-- above p, not above q, and on the right of p q -/
def ins (p q v : Pt) : Bool := decide (p.y < v.y ∧ v.y ≤ q.y ∧ turnP p q v < 0)

theorem four_bool (A B C D : Bool) (h1 : A = true → C = true) (h2 : B = true → D = true) (h3 : B = true → A = true) (h4 : D = true → C = true) : ((A && !B) ^^ (C && !D)) = ((!A && C) ^^ (!B && D)) := by
  revert A B C D; decide

theorem crs_ins1 {a b p q : Pt} (hm : meetM a b p q = false) (hab : a.y ≤ b.y) (hpq : p.y ≤ q.y) : (crs a b p ^^ crs a b q) = (ins p q a ^^ ins p q b) := by
  rcases sep hm hab hpq with h | h
  · obtain ⟨h1, h2, h3, h4⟩ := h
    have e1 : crs a b p = false := by
      rw [Bool.eq_false_iff]; intro k; rw [crs_iff] at k
      have := h1 (by omega) (by omega) (by omega); omega
    have e2 : crs a b q = false := by
      rw [Bool.eq_false_iff]; intro k; rw [crs_iff] at k
      have := h2 (by omega) (by omega) (by omega); omega
    have e3 : ins p q a = false := by
      unfold ins; rw [decide_eq_false_iff_not]; intro k
      have := h3 (by omega) (by omega) (by omega); omega
    have e4 : ins p q b = false := by
      unfold ins; rw [decide_eq_false_iff_not]; intro k
      have := h4 (by omega) (by omega) (by omega); omega
    rw [e1, e2, e3, e4]
  · obtain ⟨h3, h4, h1, h2⟩ := h
    have e1 : crs a b p = decide (a.y ≤ p.y ∧ p.y < b.y) := by
      rw [Bool.eq_iff_iff, crs_iff, decide_eq_true_eq]
      constructor
      · intro k; omega
      · intro k; have := h1 (by omega) (by omega) (by omega); omega
    have e2 : crs a b q = decide (a.y ≤ q.y ∧ q.y < b.y) := by
      rw [Bool.eq_iff_iff, crs_iff, decide_eq_true_eq]
      constructor
      · intro k; omega
      · intro k; have := h2 (by omega) (by omega) (by omega); omega
    have e3 : ins p q a = decide (p.y < a.y ∧ a.y ≤ q.y) := by
      unfold ins; rw [decide_eq_decide]
      constructor
      · intro k; omega
      · intro k; have := h3 (by omega) (by omega) (by omega); omega
    have e4 : ins p q b = decide (p.y < b.y ∧ b.y ≤ q.y) := by
      unfold ins; rw [decide_eq_decide]
      constructor
      · intro k; omega
      · intro k; have := h4 (by omega) (by omega) (by omega); omega
    rw [e1, e2, e3, e4]
    have d1 : decide (a.y ≤ p.y ∧ p.y < b.y) = (decide (a.y ≤ p.y) && !decide (b.y ≤ p.y)) := by rw [Bool.eq_iff_iff]; simp
    have d2 : decide (a.y ≤ q.y ∧ q.y < b.y) = (decide (a.y ≤ q.y) && !decide (b.y ≤ q.y)) := by rw [Bool.eq_iff_iff]; simp
    have d3 : decide (p.y < a.y ∧ a.y ≤ q.y) = (!decide (a.y ≤ p.y) && decide (a.y ≤ q.y)) := by rw [Bool.eq_iff_iff]; simp
    have d4 : decide (p.y < b.y ∧ b.y ≤ q.y) = (!decide (b.y ≤ p.y) && decide (b.y ≤ q.y)) := by rw [Bool.eq_iff_iff]; simp
    rw [d1, d2, d3, d4]
    refine four_bool _ _ _ _ ?_ ?_ ?_ ?_ <;> (simp only [decide_eq_true_eq]; intro _; omega)

theorem meetM_f_sym {a b c d : Pt} (h : meetM a b c d = false) : meetM c d a b = false := by rw [meetM_comm]; exact h

theorem meetM_f_flip {a b c d : Pt} (h : meetM a b c d = false) : meetM b a c d = false := by
  rw [Bool.eq_false_iff] at *; exact fun k => h ((meetM_flip _ _ _ _).2 k)

theorem meetM_f_flip2 {a b c d : Pt} (h : meetM a b c d = false) : meetM a b d c = false := meetM_f_sym (meetM_f_flip (meetM_f_sym h))

theorem crs_flip {a b p : Pt} (h : ¬ (a.y > p.y ↔ b.y > p.y) → turnP a b p ≠ 0) : crs b a p = crs a b p := by
  rw [Bool.eq_iff_iff, crs_iff, crs_iff, turn_flip a b p]
  constructor
  · rintro ⟨h1, h2⟩; have := h (by omega); omega
  · rintro ⟨h1, h2⟩; have := h (by omega); omega

theorem off_turn {a b p q : Pt} (hm : meetM a b p q = false) (h : ¬ (a.y > p.y ↔ b.y > p.y)) : turnP a b p ≠ 0 := by
  intro e
  have := meet_on (a := p) (b := q) e (line_boxY e (by omega) (by omega) (by omega))
  rw [meetM_f_sym hm] at this
  cases this

theorem crs_ins2 {a b p q : Pt} (hm : meetM a b p q = false) (hpq : p.y ≤ q.y) : (crs a b p ^^ crs a b q) = (ins p q a ^^ ins p q b) := by
  rcases Int.le_total a.y b.y with h | h
  · exact crs_ins1 hm h hpq
  · rw [← crs_flip (off_turn hm), ← crs_flip (off_turn (meetM_f_flip2 hm)), crs_ins1 (meetM_f_flip hm) h hpq, Bool.xor_comm]

def insW (p q v : Pt) : Bool := if p.y ≤ q.y then ins p q v else ins q p v

theorem crs_insW {a b p q : Pt} (hm : meetM a b p q = false) : (crs a b p ^^ crs a b q) = (insW p q a ^^ insW p q b) := by
  unfold insW
  by_cases h : p.y ≤ q.y
  · rw [if_pos h, if_pos h]; exact crs_ins2 hm h
  · rw [if_neg h, if_neg h, Bool.xor_comm]; exact crs_ins2 (meetM_f_flip2 hm) (by omega)

theorem isInK_xor (r : List Pt) (p : Pt) (k : Nat) : isInK r p (k + 1) = (isInK r p k ^^ crossG r p k) := by
  show (if crossG r p k then !isInK r p k else isInK r p k) = _
  cases crossG r p k <;> simp

theorem xor_tel (a b c d x y z : Bool) (h1 : (a ^^ b) = (x ^^ y)) (h2 : (c ^^ d) = (y ^^ z)) : ((a ^^ c) ^^ (b ^^ d)) = (x ^^ z) := by
  revert a b c d x y z; decide
/-- along a way that meets no side of a ring, in stays in -/
theorem isIn_way {r : List Pt} {p q : Pt} (h : ∀ i, i < r.length → meetM (cor r i) (cor r (i + 1)) p q = false) : isInF r p = isInF r q := by
  have key : ∀ k, k ≤ r.length → (isInK r p k ^^ isInK r q k) = (insW p q (cor r 0) ^^ insW p q (cor r k)) := by
    intro k
    induction k with
    | zero => intro _; simp [isInK]
    | succ k ih =>
      intro hk
      rw [isInK_xor, isInK_xor, crossG_eq, crossG_eq]
      exact xor_tel _ _ _ _ _ _ _ (ih (by omega)) (crs_insW (h k (by omega)))
  have := key r.length (Nat.le_refl _)
  rw [cor_len] at this
  unfold isInF
  revert this
  cases isInK r p r.length <;> cases isInK r q r.length <;> simp

end Go.Proofs.YtejmbaiioblfeaaGreatDoor

namespace Go.Proofs.YtejmbaiioblfeaaGreatDoor
open Go Go.RowKit Go.Bl

structure CM {G : Type} (op : G → G → G) (e : G) : Prop where
  assoc : ∀ a b c, op (op a b) c = op a (op b c)
  comm : ∀ a b, op a b = op b a
  idr : ∀ a, op a e = a

def foldW {G : Type} (op : G → G → G) (e : G) (F : Nat → G) (s : Nat) : Nat → G
  | 0 => e
  | k + 1 => op (foldW op e F s k) (F (s + k))

theorem foldW_one {G : Type} {op : G → G → G} {e : G} (h : CM op e) (F : Nat → G) (s : Nat) : foldW op e F s 1 = F s := by
  show op e (F (s + 0)) = F s
  rw [h.comm, h.idr]; rfl

theorem foldW_add {G : Type} {op : G → G → G} {e : G} (h : CM op e) (F : Nat → G) (s k : Nat) : ∀ l, foldW op e F s (k + l) = op (foldW op e F s k) (foldW op e F (s + k) l)
  | 0 => (h.idr _).symm
  | l + 1 => by
    show op (foldW op e F s (k + l)) (F (s + (k + l))) = op _ (op (foldW op e F (s + k) l) (F (s + k + l)))
    rw [foldW_add h F s k l, h.assoc, Nat.add_assoc]

theorem foldW_rot {G : Type} {op : G → G → G} {e : G} (h : CM op e) (F : Nat → G) {n : Nat} (hp : ∀ i, F (i + n) = F i) : ∀ s, foldW op e F s n = foldW op e F 0 n
  | 0 => rfl
  | s + 1 => by
    rw [← foldW_rot h F hp s]
    cases n with
    | zero => rfl
    | succ m =>
      have e1 : foldW op e F s (m + 1) = op (F s) (foldW op e F (s + 1) m) := by
        rw [Nat.add_comm m 1, foldW_add h F s 1 m, foldW_one h]
      have e2 : F (s + 1 + m) = F s := by rw [show s + 1 + m = s + (m + 1) by omega, hp]
      rw [e1]
      show op (foldW op e F (s + 1) m) (F (s + 1 + m)) = _
      rw [e2, h.comm]

theorem cm_xor : CM Bool.xor false := ⟨by decide, by decide, by decide⟩

theorem cm_add : CM (fun a b : Int => a + b) 0 := ⟨Int.add_assoc, Int.add_comm, Int.add_zero⟩

/-- a right ring, as what goes round -/
structure RR (n : Nat) (f : Nat → Pt) : Prop where
  n3 : 3 ≤ n
  per : ∀ i, f (i + n) = f i
  inj : ∀ i j, i < j → j < i + n → f i ≠ f j
  fold : ∀ i, foldB (f (i + 1)) (f i) (f (i + 2)) = false
  side : ∀ i j, i + 2 ≤ j → j + 2 ≤ i + n → meetM (f i) (f (i + 1)) (f j) (f (j + 1)) = false

theorem cor_am (r : List Pt) (i t : Nat) : cor r (i + r.length * t) = cor r i := by unfold cor; rw [Nat.add_mul_mod_self_left]

theorem cor_mm (r : List Pt) (i k : Nat) : cor r (i % r.length + k) = cor r (i + k) := by unfold cor; rw [Nat.mod_add_mod]

theorem sidesF_no {r : List Pt} (h : sidesF r = 0) {i : Nat} (hi : i < r.length) : badI r i = false := by
  unfold sidesF at h
  by_cases hb : (List.range r.length).any (badI r) = true
  · rw [if_pos hb] at h; cases h
  · rw [Bool.not_eq_true, List.any_eq_false] at hb
    have := hb i (List.mem_range.2 hi)
    simpa using this

theorem rr_of {r : List Pt} (h : ringF r = 0) : RR r.length (cor r) := by
  obtain ⟨h3, -, -, ht, hs⟩ := ringF_ok h
  have hpos : 0 < r.length := by omega
  have hbad : ∀ i, badI r (i % r.length) = false := fun i => sidesF_no hs (Nat.mod_lt i hpos)
  refine ⟨h3, cor_mod r, fun i j hij hjn e => ?_, fun i => ?_, fun i j hij hjn => ?_⟩
  · have hne : i % r.length ≠ j % r.length := fun q => by
      have := Nat.sub_mod_eq_zero_of_mod_eq q.symm
      rw [Nat.mod_eq_of_lt (by omega)] at this
      omega
    have e' : cor r (i % r.length) = cor r (j % r.length) := by
      have h1 := cor_mm r i 0
      have h2 := cor_mm r j 0
      simp only [Nat.add_zero] at h1 h2
      rw [h1, h2]; exact e
    rcases Nat.lt_or_gt_of_ne hne with hl | hl
    · exact twice_ne ht (Nat.mod_lt j hpos) hl e'
    · exact twice_ne ht (Nat.mod_lt i hpos) hl e'.symm
  · have hb := hbad i
    unfold badI at hb
    rw [Bool.or_eq_false_iff] at hb
    have := hb.1
    rw [cor_mm, cor_mm] at this
    have h0 := cor_mm r i 0
    simp only [Nat.add_zero] at h0
    rwa [h0] at this
  · have hm := Nat.mod_lt i hpos
    have e0 := cor_mm r i 0
    simp only [Nat.add_zero] at e0
    have e1 := cor_mm r i 1
    have e2 := cor_mm r i (j - i)
    have e3 := cor_mm r i (j + 1 - i)
    rw [show i + (j - i) = j by omega] at e2
    rw [show i + (j + 1 - i) = j + 1 by omega] at e3
    rw [← e0, ← e1, ← e2, ← e3]
    generalize ha : i % r.length = a at *
    by_cases hk : a + (j - i) < r.length
    · have hb := hbad i
      rw [ha] at hb
      unfold badI at hb
      rw [Bool.or_eq_false_iff, List.any_eq_false] at hb
      have := hb.2 (a + (j - i)) (List.mem_range.2 hk)
      unfold sidesM at this
      rw [decide_eq_true (by omega), Bool.true_and, Bool.not_eq_true] at this
      rw [show a + (j + 1 - i) = a + (j - i) + 1 by omega]
      exact this
    · obtain ⟨k, hke⟩ : ∃ k, a + (j - i) = k + r.length := ⟨a + (j - i) - r.length, by omega⟩
      have hb := sidesF_no hs (show k < r.length by omega)
      unfold badI at hb
      rw [Bool.or_eq_false_iff, List.any_eq_false] at hb
      have := hb.2 a (List.mem_range.2 hm)
      unfold sidesM at this
      rw [decide_eq_true (by omega), Bool.true_and, Bool.not_eq_true] at this
      rw [show a + (j + 1 - i) = k + 1 + r.length by omega, hke, cor_mod, cor_mod]
      exact meetM_f_sym this

theorem ringF_of {r : List Pt} (hl : r.length ≤ 500) (hb : r.any farP = false) (h : RR r.length (cor r)) : ringF r = 0 := by
  have h3 := h.n3
  have ht : twiceB r = false := any_no fun k hk => by
    rw [decide_eq_false_iff_not]
    intro hm
    obtain ⟨i, hi, e⟩ := List.mem_take_iff_getElem.1 hm
    have : cor r i = cor r k := by rw [cor_lt (by omega)]; exact e
    exact h.inj i k (by omega) (by omega) this
  have hs : sidesF r = 0 := by
    unfold sidesF
    rw [any_no fun i hi => ?_]
    · rfl
    · unfold badI
      rw [h.fold i, Bool.false_or]
      refine any_no fun k hk => ?_
      unfold sidesM
      by_cases hd : i + 2 ≤ k ∧ ¬(i = 0 ∧ k + 1 = r.length)
      · rw [h.side i k (by omega) (by omega), Bool.and_false]
      · rw [decide_eq_false hd, Bool.false_and]
  unfold ringF
  rw [if_neg (by omega), if_neg (by omega), hb, ht, if_neg (by decide), if_neg (by decide)]
  exact hs

def vecF (f : Nat → Pt) (k : Nat) : Pt := subP (f (k + 1)) (f k)

def dblP (a b : Pt) : Int := a.x * b.y - a.y * b.x

theorem sub_zero (a : Pt) : ∀ u, ¬ parV u (subP a a) := by
  intro u h
  have := h.2
  have e : doV u (subP a a) = 0 := by unfold doV subP; simp
  omega

/-- the corner's turn -/
def tzF (n : Nat) (f : Nat → Pt) (k : Nat) : Int := turnP (f (k + n - 1)) (f k) (f (k + 1))

/-- the corners that are not straight -/
def keepI (r : List Pt) : List Nat := (List.range r.length).filter fun k => decide (tzF r.length (cor r) k ≠ 0)

def simpR (r : List Pt) : List Pt := (keepI r).map (cor r)

def sgI (r : List Pt) (i : Nat) : Nat := (keepI r).getD (i % (keepI r).length) 0 + r.length * (i / (keepI r).length)

theorem isInK_fold (r : List Pt) (p : Pt) : ∀ k, isInK r p k = foldW Bool.xor false (fun i => crs (cor r i) (cor r (i + 1)) p) 0 k
  | 0 => rfl
  | k + 1 => by
    rw [isInK_xor, isInK_fold r p k]
    show _ = Bool.xor _ (crs (cor r (0 + k)) (cor r (0 + k + 1)) p)
    rw [Nat.zero_add]; rfl

theorem dblK_fold (r : List Pt) : ∀ k, dblK r k = foldW (fun a b : Int => a + b) 0 (fun i => dblP (cor r i) (cor r (i + 1))) 0 k
  | 0 => rfl
  | k + 1 => by
    show dblK r k + _ = (foldW (fun a b : Int => a + b) 0 _ 0 k) + dblP (cor r (0 + k)) (cor r (0 + k + 1))
    rw [dblK_fold r k, Nat.zero_add]; rfl

end Go.Proofs.YtejmbaiioblfeaaGreatDoor

namespace Go.Proofs.YtejmbaiioblfeaaGreatDoor
open Go Go.RowKit Go.Bl

/-- a point, D times as far -/
def scP (D : Int) (a : Pt) : Pt := ⟨D * a.x, D * a.y⟩
/-- m of D parts of the way from a to b -/
def wayP (D m : Int) (a b : Pt) : Pt := ⟨D * a.x + m * (b.x - a.x), D * a.y + m * (b.y - a.y)⟩

theorem way_zero (D : Int) (a b : Pt) : wayP D 0 a b = scP D a := by unfold wayP scP; simp

theorem way_full (D : Int) (a b : Pt) : wayP D D a b = scP D b := by
  unfold wayP scP
  rw [Pt.mk.injEq]
  constructor <;> grind

theorem way_back (D m : Int) (a b : Pt) : wayP D m a b = wayP D (D - m) b a := by
  unfold wayP
  rw [Pt.mk.injEq]
  constructor <;> grind

theorem turn_way1 (D m m' : Int) (a b c : Pt) : turnP (wayP D m a b) (wayP D m' a b) (scP D c) = D * (m' - m) * turnP a b c := by unfold turnP wayP scP; grind

theorem turn_way2 (D m : Int) (a b c d : Pt) : turnP (scP D c) (scP D d) (wayP D m a b) = D * ((D - m) * turnP c d a + m * turnP c d b) := by unfold turnP wayP scP; grind

theorem turn_way3 (D m : Int) (z a b : Pt) : turnP (scP D z) (scP D a) (wayP D m a b) = D * m * turnP z a b := by unfold turnP wayP scP; grind

theorem way_box {D m x y : Int} (hD : 0 < D) (h0 : 0 ≤ m) (h1 : m ≤ D) : D * min x y ≤ D * x + m * (y - x) ∧ D * x + m * (y - x) ≤ D * max x y := by
  rcases Int.le_total x y with h | h
  · rw [Int.min_eq_left h, Int.max_eq_right h]
    have k1 := Int.mul_nonneg h0 (show 0 ≤ y - x by omega)
    have k2 := Int.mul_le_mul_of_nonneg_right h1 (show 0 ≤ y - x by omega)
    have e : D * (y - x) = D * y - D * x := Int.mul_sub ..
    omega
  · rw [Int.min_eq_right h, Int.max_eq_left h]
    have k1 := Int.mul_nonneg h0 (show 0 ≤ x - y by omega)
    have k2 := Int.mul_le_mul_of_nonneg_right h1 (show 0 ≤ x - y by omega)
    have e : D * (x - y) = D * x - D * y := Int.mul_sub ..
    have e2 : m * (y - x) = -(m * (x - y)) := by rw [← Int.mul_neg]; congr 1; omega
    omega

theorem sc_min {D x y : Int} (hD : 0 < D) : min (D * x) (D * y) = D * min x y := by
  rcases Int.le_total x y with h | h
  · have := Int.mul_le_mul_of_nonneg_left h (Int.le_of_lt hD)
    rw [Int.min_eq_left h, Int.min_eq_left this]
  · have := Int.mul_le_mul_of_nonneg_left h (Int.le_of_lt hD)
    rw [Int.min_eq_right h, Int.min_eq_right this]

theorem sc_max {D x y : Int} (hD : 0 < D) : max (D * x) (D * y) = D * max x y := by
  rcases Int.le_total x y with h | h
  · have := Int.mul_le_mul_of_nonneg_left h (Int.le_of_lt hD)
    rw [Int.max_eq_right h, Int.max_eq_right this]
  · have := Int.mul_le_mul_of_nonneg_left h (Int.le_of_lt hD)
    rw [Int.max_eq_left h, Int.max_eq_left this]

theorem box_part {D a b c d p q : Int} (hD : 0 < D) (hp : D * min a b ≤ p ∧ p ≤ D * max a b) (hq : D * min a b ≤ q ∧ q ≤ D * max a b)
    (h : min (D * c) (D * d) ≤ max p q ∧ min p q ≤ max (D * c) (D * d)) : min c d ≤ max a b ∧ min a b ≤ max c d := by
  rw [sc_min hD, sc_max hD] at h
  exact ⟨Int.le_of_mul_le_mul_left (show D * min c d ≤ D * max a b by omega) hD, Int.le_of_mul_le_mul_left (show D * min a b ≤ D * max c d by omega) hD⟩
/-- what a part of a way meets, the way meets -/
theorem sub_meet {a b c d : Pt} {D m m' : Int} (hD : 0 < D) (h0 : 0 ≤ m) (h1 : m < m') (h2 : m' ≤ D) (hm : meetM a b c d = false) :
    meetM (wayP D m a b) (wayP D m' a b) (scP D c) (scP D d) = false := by
  rw [Bool.eq_false_iff] at *
  intro k
  refine hm ?_
  rw [meetM_iff] at k ⊢
  obtain ⟨⟨kx, ky⟩, k1, k2⟩ := k
  rw [turn_way1, turn_way1] at k1
  rw [turn_way2, turn_way2] at k2
  have hf : 0 < D * (m' - m) := Int.mul_pos hD (by omega)
  refine ⟨⟨box_part hD (way_box hD h0 (by omega)) (way_box hD (by omega) h2) kx, box_part hD (way_box hD h0 (by omega)) (way_box hD (by omega) h2) ky⟩, ?_, ?_⟩
  · have s1 : ∀ t : Int, (D * (m' - m) * t ≤ 0 → t ≤ 0) ∧ (0 ≤ D * (m' - m) * t → 0 ≤ t) := fun t => by
      refine ⟨fun h => ?_, fun h => ?_⟩
      · have := Int.le_of_mul_le_mul_left (a := D * (m' - m)) (b := t) (c := 0) (by simpa using h) hf; exact this
      · have := Int.le_of_mul_le_mul_left (a := D * (m' - m)) (b := 0) (c := t) (by simpa using h) hf; exact this
    have := s1 (turnP a b c)
    have := s1 (turnP a b d)
    omega
  · generalize turnP c d a = X at *
    generalize turnP c d b = Y at *
    have s2 : ∀ t : Int, (D * t ≤ 0 → t ≤ 0) ∧ (0 ≤ D * t → 0 ≤ t) := fun t => by
      refine ⟨fun h => ?_, fun h => ?_⟩
      · have := Int.le_of_mul_le_mul_left (a := D) (b := t) (c := 0) (by simpa using h) hD; exact this
      · have := Int.le_of_mul_le_mul_left (a := D) (b := 0) (c := t) (by simpa using h) hD; exact this
    have p1 := s2 ((D - m) * X + m * Y)
    have p2 := s2 ((D - m') * X + m' * Y)
    have pp : ∀ n, 0 ≤ n → n ≤ D → (0 < X → 0 < Y → 0 < (D - n) * X + n * Y) ∧ (X < 0 → Y < 0 → (D - n) * X + n * Y < 0) := fun n n0 n1 => by
      refine ⟨fun hx hy => ?_, fun hx hy => ?_⟩
      · have := two_pos (x := X) (y := Y) (m := D - n) (n := n) hx hy (by omega) n0 (by omega)
        rw [Int.mul_comm (D - n), Int.mul_comm n]; exact this
      · have := two_pos (x := -X) (y := -Y) (m := D - n) (n := n) (by omega) (by omega) (by omega) n0 (by omega)
        have e : (D - n) * X + n * Y = -(-X * (D - n) + -Y * n) := by grind
        rw [e]; omega
    have q1 := pp m h0 (by omega)
    have q2 := pp m' (by omega) h2
    generalize (D - m) * X + m * Y = U at *
    generalize (D - m') * X + m' * Y = V at *
    omega
/-- a side and the next one behind their corner -/
theorem adj_meet {z a b : Pt} {D m m' : Int} (hD : 0 < D) (h0 : 0 < m) (h1 : m ≤ m') (hza : z ≠ a) (hab : a ≠ b) (hf : foldB a z b = false) :
    meetM (scP D z) (scP D a) (wayP D m a b) (wayP D m' a b) = false := by
  rw [Bool.eq_false_iff]
  intro k
  rw [meetM_iff, turn_way3, turn_way3] at k
  obtain ⟨⟨kx, ky⟩, k1, -⟩ := k
  have f1 : 0 < D * m := Int.mul_pos hD h0
  have f2 : 0 < D * m' := Int.mul_pos hD (by omega)
  rcases Int.lt_trichotomy (turnP z a b) 0 with ht | ht | ht
  · have := Int.mul_neg_of_pos_of_neg f1 ht
    have := Int.mul_neg_of_pos_of_neg f2 ht
    omega
  · have hp := par_of ht hf hza hab
    have hx := par_x hp
    have hy := par_y hp
    have hn := parV_ne hp
    unfold ssg subP at hx hy
    unfold subP at hn
    unfold scP wayP at kx ky
    simp only at hx hy hn kx ky
    have key : ∀ zc ac bc : Int, (0 < ac - zc ↔ 0 < bc - ac) ∧ (ac - zc < 0 ↔ bc - ac < 0) → ac - zc ≠ 0 → ¬(min (D * ac + m * (bc - ac)) (D * ac + m' * (bc - ac)) ≤ max (D * zc) (D * ac) ∧ min (D * zc) (D * ac) ≤ max (D * ac + m * (bc - ac)) (D * ac + m' * (bc - ac))) := fun zc ac bc hs hne => by
      rcases Int.lt_or_gt_of_ne hne with h | h
      · have g1 := Int.mul_lt_mul_of_pos_left (show ac < zc by omega) hD
        have g2 := Int.mul_neg_of_pos_of_neg h0 (show bc - ac < 0 by omega)
        have g3 := Int.mul_neg_of_pos_of_neg (show 0 < m' by omega) (show bc - ac < 0 by omega)
        omega
      · have g1 := Int.mul_lt_mul_of_pos_left (show zc < ac by omega) hD
        have g2 := Int.mul_pos h0 (show 0 < bc - ac by omega)
        have g3 := Int.mul_pos (show 0 < m' by omega) (show 0 < bc - ac by omega)
        omega
    rcases hn with hn | hn
    · exact key _ _ _ hx hn kx
    · exact key _ _ _ hy hn ky
  · have := Int.mul_pos f1 ht
    have := Int.mul_pos f2 ht
    omega

section
variable {n : Nat} {f : Nat → Pt} {D m m' : Int}
/-- a point of side i -/
def qp (f : Nat → Pt) (D : Int) (i : Nat) (m : Int) : Pt := wayP D m (f i) (f (i + 1))

def gp (f : Nat → Pt) (D : Int) (i : Nat) : Pt := scP D (f i)

def MeetG (f : Nat → Pt) (D : Int) (k : Nat) (p q : Pt) : Bool := meetM (gp f D k) (gp f D (k + 1)) p q

theorem ne_next (R : RR n f) (i : Nat) : f i ≠ f (i + 1) := R.inj i (i + 1) (by omega) (by have := R.n3; omega)

theorem free_mid (R : RR n f) (hD : 0 < D) (h0 : 0 ≤ m) (h1 : m < m') (h2 : m' ≤ D) {i j : Nat} (k1 : i + 2 ≤ j) (k2 : j + 2 ≤ i + n) : MeetG f D j (qp f D i m) (qp f D i m') = false :=
  meetM_f_sym (sub_meet hD h0 h1 h2 (R.side i j k1 k2))

theorem fold_sym {k a b : Pt} : foldB k a b = foldB k b a := by
  unfold foldB
  have e1 : turnP k b a = -turnP k a b := by unfold turnP; grind
  have e2 : (b.x - k.x) * (a.x - k.x) + (b.y - k.y) * (a.y - k.y) = (a.x - k.x) * (b.x - k.x) + (a.y - k.y) * (b.y - k.y) := by grind
  rw [e1, e2]
  congr 1
  rw [decide_eq_decide]; omega

theorem free_next (R : RR n f) (hD : 0 < D) (h1 : m < m') (h2 : m' < D) (i : Nat) : MeetG f D (i + 1) (qp f D i m) (qp f D i m') = false := by
  have h := adj_meet (z := f (i + 2)) (a := f (i + 1)) (b := f i) (m := D - m') (m' := D - m) hD (by omega) (by omega) (ne_next R (i + 1)).symm (ne_next R i).symm (by rw [fold_sym]; exact R.fold i)
  rw [← way_back, ← way_back] at h
  exact meetM_f_flip2 (meetM_f_flip h)

theorem free_prev (R : RR n f) (hD : 0 < D) (h0 : 0 < m) (h1 : m < m') (i : Nat) : MeetG f D (i + n - 1) (qp f D i m) (qp f D i m') = false := by
  have hn := R.n3
  obtain ⟨j, hj⟩ : ∃ j, i + n = j + 1 := ⟨i + n - 1, by omega⟩
  have e0 : f (j + 1) = f i := by rw [← hj]; exact R.per i
  have e1 : f (j + 2) = f (i + 1) := by rw [show j + 2 = i + 1 + n by omega]; exact R.per (i + 1)
  have h := adj_meet (z := f j) (a := f (j + 1)) (b := f (j + 2)) (m := m) (m' := m') hD h0 (by omega) (ne_next R j) (ne_next R (j + 1)) (R.fold j)
  unfold MeetG gp qp
  rw [show i + n - 1 = j by omega]
  rw [e1] at h
  rw [e0] at h ⊢
  exact h

def xw (g : Nat → Pt) (p : Pt) (s l : Nat) : Bool := foldW Bool.xor false (fun k => crs (g k) (g (k + 1)) p) s l

theorem xw_way {g : Nat → Pt} {p q : Pt} {s : Nat} : ∀ l, (∀ k, k < l → meetM (g (s + k)) (g (s + k + 1)) p q = false) → (xw g p s l ^^ xw g q s l) = (insW p q (g s) ^^ insW p q (g (s + l)))
  | 0, _ => by simp [xw, foldW]
  | l + 1, h => xor_tel _ _ _ _ _ _ _ (xw_way l fun k hk => h k (by omega)) (crs_insW (h l (by omega)))

theorem insW_on {p q v : Pt} (h : turnP p q v = 0) : insW p q v = false := by
  have h2 : turnP q p v = 0 := by rw [turn_flip]; omega
  unfold insW ins
  split <;> (rw [decide_eq_false_iff_not]; omega)

theorem on_way1 (D m m' : Int) (a b : Pt) : turnP (wayP D m a b) (wayP D m' a b) (scP D a) = 0 := by rw [turn_way1]; unfold turnP; grind

theorem on_way2 (D m m' : Int) (a b : Pt) : turnP (wayP D m a b) (wayP D m' a b) (scP D b) = 0 := by rw [turn_way1]; unfold turnP; grind
/-- along a side -/
theorem const_side (R : RR n f) (hD : 0 < D) (h0 : 0 < m) (h1 : m < m') (h2 : m' < D) (i : Nat) : xw (gp f D) (qp f D i m) (i + 1) (n - 1) = xw (gp f D) (qp f D i m') (i + 1) (n - 1) := by
  have hn := R.n3
  have h := xw_way (g := gp f D) (p := qp f D i m) (q := qp f D i m') (s := i + 1) (n - 1) fun k hk => by
    by_cases k0 : k = 0
    · subst k0; exact free_next R hD h1 h2 i
    by_cases k2 : k = n - 2
    · have := free_prev (D := D) (m := m) (m' := m') R hD h0 h1 i
      rw [show i + n - 1 = i + 1 + k by omega] at this
      exact this
    · exact free_mid R hD (by omega) h1 (by omega) (by omega) (by omega)
  have e1 : insW (qp f D i m) (qp f D i m') (gp f D (i + 1)) = false := insW_on (on_way2 ..)
  have e2 : insW (qp f D i m) (qp f D i m') (gp f D (i + 1 + (n - 1))) = false := by
    have : gp f D (i + 1 + (n - 1)) = gp f D i := by unfold gp; rw [show i + 1 + (n - 1) = i + n by omega, R.per]
    rw [this]
    exact insW_on (on_way1 ..)
  rw [e1, e2] at h
  revert h
  cases xw (gp f D) (qp f D i m) (i + 1) (n - 1) <;> cases xw (gp f D) (qp f D i m') (i + 1) (n - 1) <;> simp

theorem const_any (R : RR n f) (hD : 0 < D) (h0 : 0 < m) (h1 : m < D) (k0 : 0 < m') (k1 : m' < D) (i : Nat) : xw (gp f D) (qp f D i m) (i + 1) (n - 1) = xw (gp f D) (qp f D i m') (i + 1) (n - 1) := by
  rcases Int.lt_trichotomy m m' with h | h | h
  · exact const_side R hD h0 h k1 i
  · rw [h]
  · exact (const_side R hD k0 h h1 i).symm

theorem to_corner (R : RR n f) (hD : 0 < D) (h0 : 0 < m) (h1 : m < D) (i : Nat) : (xw (gp f D) (qp f D i m) (i + 2) (n - 2) ^^ xw (gp f D) (gp f D (i + 1)) (i + 2) (n - 2)) = insW (qp f D i m) (gp f D (i + 1)) (gp f D (i + 2)) := by
  have hn := R.n3
  have eD : gp f D (i + 1) = qp f D i D := (way_full ..).symm
  rw [eD]
  have h := xw_way (g := gp f D) (p := qp f D i m) (q := qp f D i D) (s := i + 2) (n - 2) fun k hk => by
    by_cases k2 : k = n - 3
    · have := free_prev (D := D) (m := m) (m' := D) R hD h0 h1 i
      rw [show i + n - 1 = i + 2 + k by omega] at this
      exact this
    · exact free_mid R hD (by omega) h1 (Int.le_refl _) (by omega) (by omega)
  rw [h]
  have e2 : insW (qp f D i m) (qp f D i D) (gp f D (i + 2 + (n - 2))) = false := by
    have : gp f D (i + 2 + (n - 2)) = gp f D i := by unfold gp; rw [show i + 2 + (n - 2) = i + n by omega, R.per]
    rw [this]
    exact insW_on (on_way1 ..)
  rw [e2, Bool.xor_false]

theorem from_corner (R : RR n f) (hD : 0 < D) (h0 : 0 < m) (h1 : m < D) (i : Nat) : (xw (gp f D) (gp f D (i + 1)) (i + 2) (n - 2) ^^ xw (gp f D) (qp f D (i + 1) m) (i + 2) (n - 2)) = insW (gp f D (i + 1)) (qp f D (i + 1) m) (gp f D i) := by
  have hn := R.n3
  have eD : gp f D (i + 1) = qp f D (i + 1) 0 := (way_zero ..).symm
  rw [eD]
  have h := xw_way (g := gp f D) (p := qp f D (i + 1) 0) (q := qp f D (i + 1) m) (s := i + 2) (n - 2) fun k hk => by
    by_cases k2 : k = 0
    · subst k2; exact free_next R hD h0 h1 (i + 1)
    · exact free_mid R hD (Int.le_refl _) h0 (by omega) (by omega) (by omega)
  rw [h]
  have e2 : insW (qp f D (i + 1) 0) (qp f D (i + 1) m) (gp f D (i + 2)) = false := insW_on (on_way2 ..)
  rw [e2, Bool.false_xor]
  unfold gp
  rw [show i + 2 + (n - 2) = i + n by omega, R.per]
end

end Go.Proofs.YtejmbaiioblfeaaGreatDoor

namespace Go.Proofs.YtejmbaiioblfeaaGreatDoor
open Go Go.RowKit Go.Bl

/-- a side goes up, or is level and goes back -/
def gbit (a b : Pt) : Bool := decide (0 < b.y - a.y) || (decide (b.y - a.y = 0) && decide (b.x - a.x < 0))

theorem turn_c1 (D : Int) (u w v : Pt) : turnP (scP D w) (scP D v) (wayP D (D - 1) u w) = D * turnP u w v := by unfold turnP scP wayP; grind

theorem turn_c2 (D : Int) (u w v : Pt) : turnP (scP D u) (scP D w) (wayP D 1 w v) = D * turnP u w v := by unfold turnP scP wayP; grind

theorem turn_c3 (D : Int) (u w v : Pt) : turnP (wayP D (D - 1) u w) (scP D w) (scP D v) = D * turnP u w v := by unfold turnP scP wayP; grind

theorem turn_c4 (D : Int) (u w v : Pt) : turnP (scP D w) (wayP D (D - 1) u w) (scP D v) = -(D * turnP u w v) := by unfold turnP scP wayP; grind

theorem turn_c5 (D : Int) (u w v : Pt) : turnP (scP D w) (wayP D 1 w v) (scP D u) = D * turnP u w v := by unfold turnP scP wayP; grind

theorem turn_c6 (D : Int) (u w v : Pt) : turnP (wayP D 1 w v) (scP D w) (scP D u) = -(D * turnP u w v) := by unfold turnP scP wayP; grind

theorem corner_bool (P1 Z1 P2 Z2 X1 X2 tp tn : Bool) (h1 : P1 = true → Z1 = false) (h2 : P2 = true → Z2 = false) (ht : tp = true → tn = false)
    (a1 : P1 = true → Z2 = true → tp = X2 ∧ tn = !X2) (a2 : P1 = false → Z1 = false → Z2 = true → tp = !X2 ∧ tn = X2)
    (a3 : Z1 = true → P2 = true → tp = !X1 ∧ tn = X1) (a4 : Z1 = true → P2 = false → Z2 = false → tp = X1 ∧ tn = !X1)
    (a5 : Z1 = true → Z2 = true → tp = false ∧ tn = false ∧ X1 = X2) :
    (((P1 != (P2 || (Z2 && P1))) && (tp == P2)) ^^ (((!P1 && (!Z1 || (!P2 && !Z2))) != (!P2 && !Z2)) && (tp == P1)) ^^ ((P1 && Z2) && tn) ^^ ((Z1 && (!P2 && !Z2)) && tp)) = ((P1 || (Z1 && X1)) ^^ (P2 || (Z2 && X2))) := by
  cases P1 <;> cases Z1 <;> cases P2 <;> cases Z2 <;> simp at h1 h2 a1 a2 a3 a4 a5 ⊢ <;> (first | done | (cases X1 <;> cases X2 <;> simp_all))

theorem mulD {D y : Int} (hD : 0 < D) : (0 < y → D ≤ D * y) ∧ (y < 0 → D * y ≤ -D) ∧ (y = 0 → D * y = 0) := by
  refine ⟨fun h => ?_, fun h => ?_, fun h => by rw [h, Int.mul_zero]⟩
  · have := Int.mul_le_mul_of_nonneg_left (show 1 ≤ y by omega) (Int.le_of_lt hD)
    omega
  · have := Int.mul_le_mul_of_nonneg_left (show y ≤ -1 by omega) (Int.le_of_lt hD)
    omega

theorem sgn_mul {D t : Int} (hD : 0 < D) : (0 < D * t ↔ 0 < t) ∧ (D * t < 0 ↔ t < 0) := by
  have := mulD (y := t) hD
  omega

theorem turn_xy (u w v : Pt) : turnP u w v = (w.x - u.x) * (v.y - w.y) - (w.y - u.y) * (v.x - w.x) := by unfold turnP; grind

theorem sg_pp {a b : Int} (h : 0 < a) : (0 < a * b ↔ 0 < b) ∧ (a * b < 0 ↔ b < 0) := sgn_mul h

theorem sg_np {a b : Int} (h : a < 0) : (0 < a * b ↔ b < 0) ∧ (a * b < 0 ↔ 0 < b) := by
  have := sg_pp (a := -a) (b := b) (by omega)
  rw [Int.neg_mul] at this
  omega

theorem pt_ne {a b : Pt} (h : a ≠ b) : b.y - a.y = 0 → b.x - a.x ≠ 0 := fun h1 h2 => h (by
  cases a; cases b
  simp only [Pt.mk.injEq] at *
  omega)

set_option maxHeartbeats 1000000 in
theorem corner_eq {D : Int} {u w v : Pt} (hD : 0 < D) (hy1 : -D < w.y - u.y ∧ w.y - u.y < D) (hy2 : -D < v.y - w.y ∧ v.y - w.y < D) (huw : u ≠ w) (hwv : w ≠ v) (hf : foldB w u v = false) :
    ((crs (scP D w) (scP D v) (wayP D (D - 1) u w) ^^ crs (scP D u) (scP D w) (wayP D 1 w v)) ^^ (insW (wayP D (D - 1) u w) (scP D w) (scP D v) ^^ insW (scP D w) (wayP D 1 w v) (scP D u))) = (gbit u w ^^ gbit w v) := by
  have n1 := pt_ne huw
  have n2 := pt_ne hwv
  have ht := turn_xy u w v
  have hpar : turnP u w v = 0 → parV (subP w u) (subP v w) := fun h => par_of h hf huw hwv
  have t1 := sgn_mul (t := turnP u w v) hD
  have m1 := mulD (y := w.y - u.y) hD
  have m2 := mulD (y := v.y - w.y) hD
  have e1 : D * (w.y - u.y) = D * w.y - D * u.y := Int.mul_sub ..
  have e2 : D * (v.y - w.y) = D * v.y - D * w.y := Int.mul_sub ..
  have e3 : (D - 1) * (w.y - u.y) = D * (w.y - u.y) - (w.y - u.y) := by rw [Int.sub_mul, Int.one_mul]
  have b1 : crs (scP D w) (scP D v) (wayP D (D - 1) u w) = ((decide (0 < w.y - u.y) != (decide (0 < v.y - w.y) || (decide (v.y - w.y = 0) && decide (0 < w.y - u.y)))) && (decide (0 < turnP u w v) == decide (0 < v.y - w.y))) := by
    unfold crs
    rw [turn_c1]
    have c1 : decide ((scP D w).y > (wayP D (D - 1) u w).y) = decide (0 < w.y - u.y) := by
      rw [decide_eq_decide]; show D * w.y > D * u.y + (D - 1) * (w.y - u.y) ↔ _; omega
    have c2 : decide ((scP D v).y > (wayP D (D - 1) u w).y) = (decide (0 < v.y - w.y) || (decide (v.y - w.y = 0) && decide (0 < w.y - u.y))) := by
      rw [Bool.eq_iff_iff]
      simp only [decide_eq_true_eq, Bool.or_eq_true, Bool.and_eq_true]
      show D * v.y > D * u.y + (D - 1) * (w.y - u.y) ↔ _
      omega
    have c3 : decide (D * turnP u w v > 0) = decide (0 < turnP u w v) := by rw [decide_eq_decide]; exact t1.1
    have c4 : decide ((scP D v).y > (scP D w).y) = decide (0 < v.y - w.y) := by
      rw [decide_eq_decide]; show D * v.y > D * w.y ↔ _; omega
    rw [c1, c2, c3, c4]
  have b2 : crs (scP D u) (scP D w) (wayP D 1 w v) = (((!decide (0 < w.y - u.y) && (!decide (w.y - u.y = 0) || (!decide (0 < v.y - w.y) && !decide (v.y - w.y = 0)))) != (!decide (0 < v.y - w.y) && !decide (v.y - w.y = 0))) && (decide (0 < turnP u w v) == decide (0 < w.y - u.y))) := by
    unfold crs
    rw [turn_c2]
    have c1 : decide ((scP D u).y > (wayP D 1 w v).y) = (!decide (0 < w.y - u.y) && (!decide (w.y - u.y = 0) || (!decide (0 < v.y - w.y) && !decide (v.y - w.y = 0)))) := by
      rw [Bool.eq_iff_iff]
      simp only [decide_eq_true_eq, Bool.or_eq_true, Bool.and_eq_true, Bool.not_eq_true', decide_eq_false_iff_not]
      show D * u.y > D * w.y + 1 * (v.y - w.y) ↔ _
      omega
    have c2 : decide ((scP D w).y > (wayP D 1 w v).y) = (!decide (0 < v.y - w.y) && !decide (v.y - w.y = 0)) := by
      rw [Bool.eq_iff_iff]
      simp only [decide_eq_true_eq, Bool.and_eq_true, Bool.not_eq_true', decide_eq_false_iff_not]
      show D * w.y > D * w.y + 1 * (v.y - w.y) ↔ _
      omega
    have c3 : decide (D * turnP u w v > 0) = decide (0 < turnP u w v) := by rw [decide_eq_decide]; exact t1.1
    have c4 : decide ((scP D w).y > (scP D u).y) = decide (0 < w.y - u.y) := by
      rw [decide_eq_decide]; show D * w.y > D * u.y ↔ _; omega
    rw [c1, c2, c3, c4]
  have b3 : insW (wayP D (D - 1) u w) (scP D w) (scP D v) = ((decide (0 < w.y - u.y) && decide (v.y - w.y = 0)) && decide (turnP u w v < 0)) := by
    unfold insW ins
    rw [turn_c3, turn_c4]
    show (if D * u.y + (D - 1) * (w.y - u.y) ≤ D * w.y then decide (D * u.y + (D - 1) * (w.y - u.y) < D * v.y ∧ D * v.y ≤ D * w.y ∧ D * turnP u w v < 0) else decide (D * w.y < D * v.y ∧ D * v.y ≤ D * u.y + (D - 1) * (w.y - u.y) ∧ -(D * turnP u w v) < 0)) = _
    rw [Bool.eq_iff_iff]
    simp only [decide_eq_true_eq, Bool.and_eq_true]
    split
    · rw [decide_eq_true_eq]; omega
    · rw [decide_eq_true_eq]; omega
  have b4 : insW (scP D w) (wayP D 1 w v) (scP D u) = ((decide (w.y - u.y = 0) && (!decide (0 < v.y - w.y) && !decide (v.y - w.y = 0))) && decide (0 < turnP u w v)) := by
    unfold insW ins
    rw [turn_c5, turn_c6]
    show (if D * w.y ≤ D * w.y + 1 * (v.y - w.y) then decide (D * w.y < D * u.y ∧ D * u.y ≤ D * w.y + 1 * (v.y - w.y) ∧ D * turnP u w v < 0) else decide (D * w.y + 1 * (v.y - w.y) < D * u.y ∧ D * u.y ≤ D * w.y ∧ -(D * turnP u w v) < 0)) = _
    rw [Bool.eq_iff_iff]
    simp only [decide_eq_true_eq, Bool.and_eq_true, Bool.not_eq_true', decide_eq_false_iff_not]
    split
    · rw [decide_eq_true_eq]; omega
    · rw [decide_eq_true_eq]; omega
  rw [b1, b2, b3, b4]
  have key := corner_bool (decide (0 < w.y - u.y)) (decide (w.y - u.y = 0)) (decide (0 < v.y - w.y)) (decide (v.y - w.y = 0)) (decide (w.x - u.x < 0)) (decide (v.x - w.x < 0)) (decide (0 < turnP u w v)) (decide (turnP u w v < 0))
    (by simp only [decide_eq_true_eq, decide_eq_false_iff_not]; omega) (by simp only [decide_eq_true_eq, decide_eq_false_iff_not]; omega) (by simp only [decide_eq_true_eq, decide_eq_false_iff_not]; omega)
    (fun h1 h2 => by
      simp only [decide_eq_true_eq] at h1 h2
      have := n2 h2
      rw [h2, Int.mul_zero] at ht
      have s := sg_pp (b := v.x - w.x) h1
      rw [← decide_not, decide_eq_decide, decide_eq_decide]
      omega)
    (fun h1 h2 h3 => by
      simp only [decide_eq_true_eq, decide_eq_false_iff_not] at h1 h2 h3
      have := n2 h3
      rw [h3, Int.mul_zero] at ht
      have s := sg_np (b := v.x - w.x) (show w.y - u.y < 0 by omega)
      rw [← decide_not, decide_eq_decide, decide_eq_decide]
      omega)
    (fun h1 h2 => by
      simp only [decide_eq_true_eq] at h1 h2
      have := n1 h1
      rw [h1, Int.zero_mul, Int.mul_comm] at ht
      have s := sg_pp (b := w.x - u.x) h2
      rw [← decide_not, decide_eq_decide, decide_eq_decide]
      omega)
    (fun h1 h2 h3 => by
      simp only [decide_eq_true_eq, decide_eq_false_iff_not] at h1 h2 h3
      have := n1 h1
      rw [h1, Int.zero_mul, Int.mul_comm] at ht
      have s := sg_np (b := w.x - u.x) (show v.y - w.y < 0 by omega)
      rw [← decide_not, decide_eq_decide, decide_eq_decide]
      omega)
    (fun h1 h2 => by
      simp only [decide_eq_true_eq] at h1 h2
      rw [h1, h2, Int.mul_zero, Int.zero_mul] at ht
      have hx := par_x (hpar (by omega))
      unfold ssg subP at hx
      simp only at hx
      have := n1 h1
      rw [decide_eq_false_iff_not, decide_eq_false_iff_not, decide_eq_decide]
      omega)
  rw [← Bool.xor_assoc] 
  unfold gbit
  exact key

section
variable {n : Nat} {f : Nat → Pt} {D m m' : Int}
/-- who is on the left of side i -/
def lefB (f : Nat → Pt) (n : Nat) (D : Int) (i : Nat) : Bool := xw (gp f D) (qp f D i 1) (i + 1) (n - 1) ^^ gbit (f i) (f (i + 1))

theorem xw_front (g : Nat → Pt) (p : Pt) (s l : Nat) : xw g p s (l + 1) = (crs (g s) (g (s + 1)) p ^^ xw g p (s + 1) l) := by
  unfold xw
  rw [Nat.add_comm l 1, foldW_add cm_xor _ s 1 l, foldW_one cm_xor]

theorem lef_next (R : RR n f) (hD : 2 ≤ D) (hy : ∀ i, -D < (f (i + 1)).y - (f i).y ∧ (f (i + 1)).y - (f i).y < D) (i : Nat) : lefB f n D (i + 1) = lefB f n D i := by
  have hn := R.n3
  have h0 : 0 < D := by omega
  have c := const_any (m := 1) (m' := D - 1) R h0 (by omega) (by omega) (by omega) (by omega) i
  have h1 := to_corner (m := D - 1) R h0 (by omega) (by omega) i
  have h2 := from_corner (m := 1) R h0 (by omega) (by omega) i
  have k := corner_eq (u := f i) (w := f (i + 1)) (v := f (i + 2)) h0 (hy i) (hy (i + 1)) (ne_next R i) (ne_next R (i + 1)) (R.fold i)
  unfold lefB
  rw [c]
  have x1 : xw (gp f D) (qp f D i (D - 1)) (i + 1) (n - 1) = (crs (gp f D (i + 1)) (gp f D (i + 2)) (qp f D i (D - 1)) ^^ xw (gp f D) (qp f D i (D - 1)) (i + 2) (n - 2)) := by
    rw [show n - 1 = (n - 2) + 1 by omega]; exact xw_front ..
  have x2 : xw (gp f D) (qp f D (i + 1) 1) (i + 1 + 1) (n - 1) = (xw (gp f D) (qp f D (i + 1) 1) (i + 2) (n - 2) ^^ crs (gp f D i) (gp f D (i + 1)) (qp f D (i + 1) 1)) := by
    rw [show n - 1 = (n - 2) + 1 by omega]
    show (foldW Bool.xor false _ (i + 2) (n - 2) ^^ crs (gp f D (i + 2 + (n - 2))) (gp f D (i + 2 + (n - 2) + 1)) _) = _
    unfold gp
    rw [show i + 2 + (n - 2) = i + n by omega, R.per, show i + n + 1 = i + 1 + n by omega, R.per]
    rfl
  rw [x1, x2]
  unfold gp qp at *
  rw [show i + 1 + 1 = i + 2 by rfl] at *
  revert h1 h2 k
  generalize crs (scP D (f (i + 1))) (scP D (f (i + 2))) (wayP D (D - 1) (f i) (f (i + 1))) = A
  generalize crs (scP D (f i)) (scP D (f (i + 1))) (wayP D 1 (f (i + 1)) (f (i + 2))) = B
  generalize insW (wayP D (D - 1) (f i) (f (i + 1))) (scP D (f (i + 1))) (scP D (f (i + 2))) = C
  generalize insW (scP D (f (i + 1))) (wayP D 1 (f (i + 1)) (f (i + 2))) (scP D (f i)) = E
  generalize xw _ (wayP D (D - 1) (f i) (f (i + 1))) (i + 2) (n - 2) = X
  generalize xw _ (wayP D 1 (f (i + 1)) (f (i + 2))) (i + 2) (n - 2) = Y
  generalize xw _ (scP D (f (i + 1))) (i + 2) (n - 2) = Z
  generalize gbit (f i) (f (i + 1)) = G
  generalize gbit (f (i + 1)) (f (i + 2)) = H
  revert A B C E X Y Z G H
  decide

theorem lef_all (R : RR n f) (hD : 2 ≤ D) (hy : ∀ i, -D < (f (i + 1)).y - (f i).y ∧ (f (i + 1)).y - (f i).y < D) : ∀ i, lefB f n D i = lefB f n D 0
  | 0 => rfl
  | i + 1 => (lef_next R hD hy i).trans (lef_all R hD hy i)
end

end Go.Proofs.YtejmbaiioblfeaaGreatDoor

namespace Go.Proofs.YtejmbaiioblfeaaGreatDoor
open Go Go.RowKit Go.Bl

/-! ### rows of numbers with signs that take turns -/

def nzPar (t : Int) : List (Int × Bool) → Bool
  | [] => false
  | a :: L => decide (t < a.1) ^^ nzPar t L

def sumS : List (Int × Bool) → Int
  | [] => 0
  | a :: L => (if a.2 then a.1 else -a.1) + sumS L

theorem nzPar_append (t : Int) : ∀ A B, nzPar t (A ++ B) = (nzPar t A ^^ nzPar t B)
  | [], B => by simp [nzPar]
  | a :: A, B => by simp only [List.cons_append, nzPar, nzPar_append t A B, Bool.xor_assoc]

theorem sumS_append : ∀ A B, sumS (A ++ B) = sumS A + sumS B
  | [], B => by simp [sumS]
  | a :: A, B => by simp only [List.cons_append, sumS, sumS_append A B]; omega

theorem nzPar_perm {t : Int} {A B : List (Int × Bool)} (h : A.Perm B) : nzPar t A = nzPar t B := by
  induction h with
  | nil => rfl
  | cons x _ ih => simp only [nzPar, ih]
  | swap x y l => simp only [nzPar]; rw [← Bool.xor_assoc, Bool.xor_comm (decide (t < y.1)), Bool.xor_assoc]
  | trans _ _ h1 h2 => exact h1.trans h2

theorem sumS_perm {A B : List (Int × Bool)} (h : A.Perm B) : sumS A = sumS B := by
  induction h with
  | nil => rfl
  | cons x _ ih => simp only [sumS, ih]
  | swap x y l => simp only [sumS]; omega
  | trans _ _ h1 h2 => exact h1.trans h2

theorem nzPar_big {t : Int} : ∀ {L : List (Int × Bool)}, (∀ a ∈ L, a.1 < t) → nzPar t L = false
  | [], _ => rfl
  | a :: L, h => by
    have h1 := h a (List.mem_cons_self ..)
    simp only [nzPar, nzPar_big fun x hx => h x (List.mem_cons_of_mem _ hx), decide_eq_false (show ¬ t < a.1 by omega)]
    rfl

theorem top_of : ∀ (L : List (Int × Bool)), L ≠ [] → L.Pairwise (fun a b => a.1 ≠ b.1) → ∃ m L', L.Perm (m :: L') ∧ (∀ a ∈ L', a.1 < m.1) ∧ L'.Pairwise (fun a b => a.1 ≠ b.1)
  | [a], _, _ => ⟨a, [], .refl _, by simp, .nil⟩
  | a :: b :: L, _, hp => by
    obtain ⟨h1, h2⟩ := List.pairwise_cons.1 hp
    obtain ⟨m, L', hm, hlt, hd⟩ := top_of (b :: L) (by simp) h2
    have ha : a.1 ≠ m.1 := h1 m (hm.mem_iff.2 (List.mem_cons_self ..))
    by_cases hc : a.1 < m.1
    · refine ⟨m, a :: L', (hm.cons a).trans (.swap ..), fun x hx => ?_, List.pairwise_cons.2 ⟨fun x hx => h1 x (hm.mem_iff.2 (List.mem_cons_of_mem _ hx)), hd⟩⟩
      rcases List.mem_cons.1 hx with rfl | hx
      · exact hc
      · exact hlt x hx
    · refine ⟨a, b :: L, .refl _, fun x hx => ?_, h2⟩
      rcases List.mem_cons.1 (hm.mem_iff.1 hx) with rfl | hx
      · omega
      · have := hlt x hx; omega

theorem turns_pos : ∀ (k : Nat) (L : List (Int × Bool)), L.length = 2 * k → L.Pairwise (fun a b => a.1 ≠ b.1) → (∀ a ∈ L, a.2 = !nzPar a.1 L) → 0 ≤ sumS L ∧ (0 < k → 0 < sumS L)
  | 0, L, hl, _, _ => by
    have : L = [] := List.length_eq_zero_iff.1 (by omega)
    subst this
    simp [sumS]
  | k + 1, L, hl, hp, h => by
    obtain ⟨m, L1, hm, hlt, hd⟩ := top_of L (by rintro rfl; simp at hl) hp
    have hl1 := hm.length_eq
    rw [List.length_cons] at hl1
    obtain ⟨m2, L2, hm2, hlt2, hd2⟩ := top_of L1 (by rintro rfl; simp at hl1; omega) hd
    have hl2 := hm2.length_eq
    rw [List.length_cons] at hl2
    have hperm : L.Perm (m :: m2 :: L2) := hm.trans (hm2.cons m)
    have hmm : m2.1 < m.1 := hlt m2 (hm2.mem_iff.2 (List.mem_cons_self ..))
    have hpar : ∀ t, nzPar t L = (decide (t < m.1) ^^ (decide (t < m2.1) ^^ nzPar t L2)) := fun t => by rw [nzPar_perm hperm]; rfl
    have hb2 : ∀ a ∈ L2, a.1 < m2.1 := hlt2
    have e1 : m.2 = true := by
      rw [h m (hperm.mem_iff.2 (List.mem_cons_self ..)), hpar, nzPar_big (fun a ha => by have := hb2 a ha; omega), decide_eq_false (by omega), decide_eq_false (by omega)]
      rfl
    have e2 : m2.2 = false := by
      rw [h m2 (hperm.mem_iff.2 (List.mem_cons_of_mem _ (List.mem_cons_self ..))), hpar, nzPar_big hb2, decide_eq_true hmm, decide_eq_false (by omega)]
      rfl
    have ih := turns_pos k L2 (by omega) hd2 fun a ha => by
      rw [h a (hperm.mem_iff.2 (List.mem_cons_of_mem _ (List.mem_cons_of_mem _ ha))), hpar]
      have := hb2 a ha
      rw [decide_eq_true (show a.1 < m.1 by omega), decide_eq_true this]
      simp
    rw [sumS_perm hperm]
    simp only [sumS, e1, e2, if_true, Bool.false_eq_true, if_false]
    omega

def flipL (L : List (Int × Bool)) : List (Int × Bool) := L.map fun a => (a.1, !a.2)

theorem flip_par (t : Int) : ∀ L, nzPar t (flipL L) = nzPar t L
  | [] => rfl
  | a :: L => by
    have := flip_par t L
    unfold flipL at this ⊢
    simp only [List.map_cons, nzPar, this]

theorem flip_sum : ∀ L, sumS (flipL L) = -sumS L
  | [] => rfl
  | a :: L => by
    have := flip_sum L
    unfold flipL at this ⊢
    simp only [List.map_cons, sumS, this]
    cases a.2 <;> simp <;> omega
/-- the signs take turns: the sum has one sign -/
theorem turns_sign {L : List (Int × Bool)} {s : Bool} (he : L.length % 2 = 0) (hp : L.Pairwise (fun a b => a.1 ≠ b.1)) (h : ∀ a ∈ L, a.2 = (nzPar a.1 L ^^ s)) :
    (s = true → 0 ≤ sumS L ∧ (L ≠ [] → 0 < sumS L)) ∧ (s = false → sumS L ≤ 0 ∧ (L ≠ [] → sumS L < 0)) := by
  have hk : L ≠ [] → 0 < L.length / 2 := fun h0 => by have := List.length_pos_iff.2 h0; omega
  refine ⟨fun hs => ?_, fun hs => ?_⟩
  · subst hs
    have := turns_pos (L.length / 2) L (by omega) hp fun a ha => by rw [h a ha, Bool.xor_true]
    exact ⟨this.1, fun h0 => this.2 (hk h0)⟩
  · subst hs
    have := turns_pos (L.length / 2) (flipL L) (by unfold flipL; rw [List.length_map]; omega) (by unfold flipL; rw [List.pairwise_map]; exact hp) fun a ha => by
      unfold flipL at ha
      obtain ⟨b, hb, rfl⟩ := List.mem_map.1 ha
      rw [flip_par]
      simp only
      rw [h b hb, Bool.xor_false]
    rw [flip_sum] at this
    exact ⟨by omega, fun h0 => by have := this.2 (hk h0); omega⟩

/-! ### a row -/

def nzRow (c : Nat → Bool) (x : Nat → Int) (u : Nat → Bool) : Nat → List (Int × Bool)
  | 0 => []
  | k + 1 => nzRow c x u k ++ (if c k then [(x k, u k)] else [])
section
variable {c : Nat → Bool} {x : Nat → Int} {u : Nat → Bool}

theorem nzRow_mem : ∀ {k : Nat} {a : Int × Bool}, a ∈ nzRow c x u k → ∃ j, j < k ∧ c j = true ∧ a = (x j, u j)
  | k + 1, a, h => by
    unfold nzRow at h
    rcases List.mem_append.1 h with h | h
    · obtain ⟨j, h1, h2⟩ := nzRow_mem h
      exact ⟨j, by omega, h2⟩
    · split at h
      · rename_i hc
        exact ⟨k, by omega, hc, List.mem_singleton.1 h⟩
      · simp at h

theorem mem_rowL : ∀ {k j : Nat}, j < k → c j = true → (x j, u j) ∈ nzRow c x u k
  | k + 1, j, h, hc => by
    unfold nzRow
    by_cases e : j = k
    · subst e
      rw [if_pos hc]; simp
    · exact List.mem_append_left _ (mem_rowL (by omega) hc)

theorem nzRow_apart : ∀ {k : Nat}, (∀ i j, i < j → j < k → c i = true → c j = true → x i ≠ x j) → (nzRow c x u k).Pairwise (fun a b => a.1 ≠ b.1)
  | 0, _ => .nil
  | k + 1, h => by
    unfold nzRow
    refine List.pairwise_append.2 ⟨nzRow_apart fun i j h1 h2 => h i j h1 (by omega), ?_, fun a ha b hb => ?_⟩
    · split <;> simp
    · split at hb
      · rename_i hc
        obtain ⟨j, h1, h2, rfl⟩ := nzRow_mem ha
        rw [List.mem_singleton.1 hb]
        exact h j k h1 (by omega) h2 hc
      · simp at hb

theorem nzRow_par (t : Int) : ∀ k, nzPar t (nzRow c x u k) = foldW Bool.xor false (fun j => c j && decide (t < x j)) 0 k
  | 0 => rfl
  | k + 1 => by
    unfold nzRow
    rw [nzPar_append, nzRow_par t k]
    show _ = (foldW Bool.xor false (fun j => c j && decide (t < x j)) 0 k ^^ (c (0 + k) && decide (t < x (0 + k))))
    rw [Nat.zero_add]
    cases hc : c k <;> simp [nzPar]

theorem nzRow_len {d : Nat → Bool} (h : ∀ k, c k = (d k != d (k + 1))) : ∀ k, ((nzRow c x u k).length % 2 = 0 ↔ d 0 = d k)
  | 0 => by simp [nzRow]
  | k + 1 => by
    have ih := nzRow_len h k
    have e := h k
    unfold nzRow
    rw [List.length_append]
    cases hc : c k
    · rw [hc] at e
      have e2 : d k = d (k + 1) := by
        revert e; cases d k <;> cases d (k + 1) <;> simp
      rw [← e2, ← ih]
      simp
    · rw [hc] at e
      have e2 : d (k + 1) = !d k := by
        revert e; cases d k <;> cases d (k + 1) <;> simp
      rw [e2]
      simp only [if_true, List.length_singleton]
      by_cases h0 : d 0 = d k
      · have := ih.2 h0
        rw [h0]
        constructor
        · intro _; omega
        · intro hh; revert hh; cases d k <;> simp
      · have h1 : ¬ (nzRow c x u k).length % 2 = 0 := fun hh => h0 (ih.1 hh)
        constructor
        · intro _; revert h0; cases d 0 <;> cases d k <;> simp
        · intro _; omega

def sumK (F : Nat → Int) : Nat → Int
  | 0 => 0
  | k + 1 => sumK F k + F k

theorem nzRow_sum : ∀ k, sumS (nzRow c x u k) = sumK (fun j => if c j then (if u j then x j else -x j) else 0) k
  | 0 => rfl
  | k + 1 => by
    unfold nzRow sumK
    rw [sumS_append, nzRow_sum k]
    cases hc : c k <;> simp [sumS]
end

theorem sumK_congr {F G : Nat → Int} : ∀ {k : Nat}, (∀ j, j < k → F j = G j) → sumK F k = sumK G k
  | 0, _ => rfl
  | k + 1, h => by
    unfold sumK
    rw [sumK_congr fun j hj => h j (by omega), h k (by omega)]

theorem sumK_add (F G : Nat → Int) : ∀ k, sumK (fun j => F j + G j) k = sumK F k + sumK G k
  | 0 => rfl
  | k + 1 => by
    unfold sumK
    rw [sumK_add F G k]; omega

theorem sumK_mul (a : Int) (F : Nat → Int) : ∀ k, sumK (fun j => a * F j) k = a * sumK F k
  | 0 => by simp [sumK]
  | k + 1 => by
    unfold sumK
    rw [sumK_mul a F k, Int.mul_add]

theorem sumK_swap (F : Nat → Nat → Int) (m : Nat) : ∀ k, sumK (fun i => sumK (fun t => F i t) m) k = sumK (fun t => sumK (fun i => F i t) k) m
  | 0 => by
    have : ∀ m, sumK (fun _ => (0 : Int)) m = 0 := fun m => by
      induction m with
      | zero => rfl
      | succ m ih => unfold sumK; rw [ih]; rfl
    show 0 = sumK (fun t => (0 : Int)) m
    rw [this]
  | k + 1 => by
    show sumK (fun i => sumK (fun t => F i t) m) k + sumK (fun t => F k t) m = sumK (fun t => sumK (fun i => F i t) k + F k t) m
    rw [sumK_swap F m k, sumK_add]

theorem sumK_nn {F : Nat → Int} : ∀ {k : Nat}, (∀ j, j < k → 0 ≤ F j) → 0 ≤ sumK F k ∧ ∀ j, j < k → F j ≤ sumK F k
  | 0, _ => ⟨Int.le_refl _, fun j h => by omega⟩
  | k + 1, h => by
    obtain ⟨h1, h2⟩ := sumK_nn (k := k) fun j hj => h j (by omega)
    have h3 := h k (by omega)
    unfold sumK
    refine ⟨by omega, fun j hj => ?_⟩
    by_cases e : j = k
    · subst e; omega
    · have := h2 j (by omega); omega
/-- the sum over a range of rows -/
theorem sumK_rows {X2 Φ : Int → Int} (hΦ : ∀ c, Φ (c + 1) - Φ c = X2 c) {lo hi B : Int} (h1 : lo ≤ hi) (hB : -B ≤ lo) : ∀ j : Nat, sumK (fun t => if lo ≤ (t : Int) - B ∧ (t : Int) - B < hi then X2 ((t : Int) - B) else 0) j = Φ (max lo (min ((j : Int) - B) hi)) - Φ lo
  | 0 => by
    rw [show max lo (min (((0 : Nat) : Int) - B) hi) = lo by omega]
    show (0 : Int) = _
    omega
  | j + 1 => by
    unfold sumK
    rw [sumK_rows hΦ h1 hB j]
    split
    · rename_i h
      rw [show max lo (min (((j + 1 : Nat) : Int) - B) hi) = ((j : Int) - B) + 1 by omega, show max lo (min ((j : Int) - B) hi) = (j : Int) - B by omega]
      have := hΦ ((j : Int) - B)
      omega
    · rename_i h
      rw [show max lo (min (((j + 1 : Nat) : Int) - B) hi) = max lo (min ((j : Int) - B) hi) by omega]
      omega

end Go.Proofs.YtejmbaiioblfeaaGreatDoor

namespace Go.Proofs.YtejmbaiioblfeaaGreatDoor
open Go Go.RowKit Go.Bl

theorem crB_iff' {a b h : Int} : (decide (a ≤ h) != decide (b ≤ h)) = true ↔ (a ≤ h ∧ h < b) ∨ (b ≤ h ∧ h < a) := by
  rw [bne_iff_ne, ne_eq, decide_eq_decide]; omega

theorem turn_row {D m : Int} {a b p : Pt} (h : p.y = (wayP D m a b).y) : turnP (scP D a) (scP D b) p = D * ((b.y - a.y) * ((wayP D m a b).x - p.x)) := by
  unfold turnP scP wayP at *
  simp only at h ⊢
  rw [h]
  grind

theorem way_on {D m : Int} {a b : Pt} (hD : 0 < D) (h0 : 0 ≤ m) (h1 : m ≤ D) (q : Pt) : meetM (wayP D m a b) q (scP D a) (scP D b) = true := by
  refine meet_on ?_ ⟨?_, ?_⟩
  · rw [turn_way2]
    have e1 : turnP a b a = 0 := by unfold turnP; grind
    have e2 : turnP a b b = 0 := by unfold turnP; grind
    rw [e1, e2]; simp
  · show min (D * a.x) (D * b.x) ≤ D * a.x + m * (b.x - a.x) ∧ D * a.x + m * (b.x - a.x) ≤ max (D * a.x) (D * b.x)
    rw [sc_min hD, sc_max hD]
    exact way_box hD h0 h1
  · show min (D * a.y) (D * b.y) ≤ D * a.y + m * (b.y - a.y) ∧ D * a.y + m * (b.y - a.y) ≤ max (D * a.y) (D * b.y)
    rw [sc_min hD, sc_max hD]
    exact way_box hD h0 h1
section
variable {n : Nat} {f : Nat → Pt} {K h : Int}

def vyF (f : Nat → Pt) (i : Nat) : Int := (f (i + 1)).y - (f i).y

def rowM (K : Int) (f : Nat → Pt) (h : Int) (i : Nat) : Int := K / vyF f i * (2 * (h - (f i).y) + 1)

def crB (f : Nat → Pt) (h : Int) (i : Nat) : Bool := decide ((f i).y ≤ h) != decide ((f (i + 1)).y ≤ h)

def nzP (K : Int) (f : Nat → Pt) (h : Int) (i : Nat) : Pt := qp f (2 * K) i (rowM K f h i)

def Div (K : Int) (f : Nat → Pt) : Prop := ∀ i, vyF f i ≠ 0 → vyF f i ∣ K

theorem nzIn (hK : 0 < K) (hd : Div K f) {i : Nat} (hc : crB f h i = true) : 0 < rowM K f h i ∧ rowM K f h i < 2 * K ∧ (nzP K f h i).y = 2 * K * h + K := by
  have hc := crB_iff'.1 hc
  have hv : vyF f i ≠ 0 := by unfold vyF; omega
  have hE := Int.ediv_mul_cancel (hd i hv)
  unfold rowM
  generalize K / vyF f i = E at *
  have hy : (nzP K f h i).y = 2 * K * (f i).y + rowM K f h i * vyF f i := rfl
  have hkey : E * (2 * (h - (f i).y) + 1) * vyF f i = K * (2 * (h - (f i).y) + 1) := by rw [← hE]; grind
  refine ⟨?_, ?_, ?_⟩
  · rcases hc with hc | hc
    · have h1 : 0 < vyF f i := by unfold vyF; omega
      exact Int.mul_pos (pos_of_mul (b := vyF f i) h1 (by omega)) (by omega)
    · have h1 : 0 < -vyF f i := by unfold vyF; omega
      have h2 : 0 < -E := pos_of_mul (b := -vyF f i) h1 (by rw [Int.neg_mul_neg]; omega)
      have := Int.mul_pos h2 (show 0 < -(2 * (h - (f i).y) + 1) by omega)
      rwa [Int.neg_mul_neg] at this
  · rcases hc with hc | hc
    · have h1 : 0 < vyF f i := by unfold vyF; omega
      have h2 : 0 < E := pos_of_mul (b := vyF f i) h1 (by omega)
      have h3 := Int.mul_pos h2 (show 0 < 2 * vyF f i - (2 * (h - (f i).y) + 1) by unfold vyF; omega)
      rw [Int.mul_sub] at h3
      have e : E * (2 * vyF f i) = 2 * K := by rw [← hE]; grind
      omega
    · have h1 : 0 < -vyF f i := by unfold vyF; omega
      have h2 : 0 < -E := pos_of_mul (b := -vyF f i) h1 (by rw [Int.neg_mul_neg]; omega)
      have h3 := Int.mul_pos h2 (show 0 < (2 * (h - (f i).y) + 1) - 2 * vyF f i by unfold vyF; omega)
      rw [Int.mul_sub] at h3
      have e : -E * (2 * vyF f i) = -(2 * K) := by rw [← hE]; grind
      have e2 : -E * (2 * (h - (f i).y) + 1) = -(E * (2 * (h - (f i).y) + 1)) := Int.neg_mul ..
      omega
  · rw [hy]
    unfold rowM
    rw [show K / vyF f i * (2 * (h - (f i).y) + 1) * vyF f i = K * (2 * (h - (f i).y) + 1) by rw [← hkey]; congr 2; exact (Int.eq_of_mul_eq_mul_right hv (by rw [hE, Int.ediv_mul_cancel (hd i hv)]))]
    grind

theorem crs_row (hK : 0 < K) (hd : Div K f) {k : Nat} {p : Pt} (hp : p.y = 2 * K * h + K) (hne : crB f h k = true → p.x ≠ (nzP K f h k).x) :
    crs (gp f (2 * K) k) (gp f (2 * K) (k + 1)) p = (crB f h k && decide (p.x < (nzP K f h k).x)) := by
  have lev : ∀ a : Pt, decide ((scP (2 * K) a).y > p.y) = !decide (a.y ≤ h) := fun a => by
    rw [← decide_not, decide_eq_decide]
    show 2 * K * a.y > p.y ↔ _
    have m1 := mulD (D := 2 * K) (y := a.y - h) (by omega)
    rw [Int.mul_sub] at m1
    omega
  unfold crs gp
  rw [lev, lev]
  have e0 : ((!decide ((f k).y ≤ h)) != (!decide ((f (k + 1)).y ≤ h))) = crB f h k := by
    unfold crB
    cases decide ((f k).y ≤ h) <;> cases decide ((f (k + 1)).y ≤ h) <;> rfl
  rw [e0]
  cases hc : crB f h k
  · rfl
  · obtain ⟨h1, h2, h3⟩ := nzIn hK hd hc
    have hx := hne hc
    rw [Bool.true_and, Bool.true_and]
    rw [turn_row (m := rowM K f h k) (by rw [hp, ← h3]; rfl)]
    have hc2 := crB_iff'.1 hc
    have t1 := sgn_mul (D := 2 * K) (t := ((f (k + 1)).y - (f k).y) * ((nzP K f h k).x - p.x)) (by omega)
    have e4 : decide ((scP (2 * K) (f (k + 1))).y > (scP (2 * K) (f k)).y) = decide (0 < (f (k + 1)).y - (f k).y) := by
      rw [decide_eq_decide]
      show 2 * K * _ > 2 * K * _ ↔ _
      have m1 := mulD (D := 2 * K) (y := (f (k + 1)).y - (f k).y) (by omega)
      rw [Int.mul_sub] at m1
      omega
    rw [e4, Bool.eq_iff_iff, beq_iff_eq, decide_eq_decide, decide_eq_true_eq]
    have t2 : (2 * K * (((f (k + 1)).y - (f k).y) * ((nzP K f h k).x - p.x)) > 0 ↔ 0 < (f (k + 1)).y - (f k).y) ↔ (((f (k + 1)).y - (f k).y) * ((nzP K f h k).x - p.x) > 0 ↔ 0 < (f (k + 1)).y - (f k).y) := by
      rw [gt_iff_lt, t1.1]
    refine t2.trans ?_
    rcases hc2 with hc2 | hc2
    · have s := sg_pp (a := (f (k + 1)).y - (f k).y) (b := (nzP K f h k).x - p.x) (by omega)
      omega
    · have s := sg_np (a := (f (k + 1)).y - (f k).y) (b := (nzP K f h k).x - p.x) (by omega)
      omega

theorem row_apart (R : RR n f) (hK : 0 < K) (hd : Div K f) {i k : Nat} (hik : i < k) (hkn : k < i + n) (hi : crB f h i = true) (hk : crB f h k = true) : (nzP K f h i).x ≠ (nzP K f h k).x := by
  intro e
  obtain ⟨i1, i2, i3⟩ := nzIn hK hd hi
  obtain ⟨k1, k2, k3⟩ := nzIn hK hd hk
  have hP : nzP K f h i = nzP K f h k := by
    rw [show nzP K f h i = ⟨(nzP K f h i).x, (nzP K f h i).y⟩ from rfl, e, i3, ← k3]
  have hn := R.n3
  have hon : ∀ q, meetM (nzP K f h i) q (gp f (2 * K) k) (gp f (2 * K) (k + 1)) = true := fun q => by rw [hP]; exact way_on (by omega) (by omega) (by omega) q
  by_cases c1 : k = i + 1
  · have := free_next (m := rowM K f h i - 1) (m' := rowM K f h i) R (show 0 < 2 * K by omega) (by omega) i2 i
    rw [← c1] at this
    have h2 := meetM_f_sym (meetM_f_flip2 this)
    have h3 := hon (qp f (2 * K) i (rowM K f h i - 1))
    unfold nzP at h3
    rw [h3] at h2
    cases h2
  · have hf : MeetG f (2 * K) k (qp f (2 * K) i (rowM K f h i)) (qp f (2 * K) i (rowM K f h i + 1)) = false := by
      by_cases c2 : k = i + n - 1
      · have := free_prev (m := rowM K f h i) (m' := rowM K f h i + 1) R (show 0 < 2 * K by omega) i1 (by omega) i
        rw [← c2] at this; exact this
      · exact free_mid R (by omega) (by omega) (by omega) (by omega) (by omega) (by omega)
    have h2 := meetM_f_sym hf
    have h3 := hon (qp f (2 * K) i (rowM K f h i + 1))
    unfold nzP at h3
    rw [h3] at h2
    cases h2

theorem per_any (R : RR n f) (K h : Int) : ∀ i, vyF f (i + n) = vyF f i ∧ rowM K f h (i + n) = rowM K f h i ∧ crB f h (i + n) = crB f h i ∧ nzP K f h (i + n) = nzP K f h i := fun i => by
  have e0 := R.per i
  have e1 := R.per (i + 1)
  rw [show i + 1 + n = i + n + 1 by omega] at e1
  have v : vyF f (i + n) = vyF f i := by unfold vyF; rw [e0, e1]
  have m : rowM K f h (i + n) = rowM K f h i := by unfold rowM; rw [v, e0]
  refine ⟨v, m, ?_, ?_⟩
  · unfold crB; rw [e0, e1]
  · unfold nzP qp; rw [m, e0, e1]

theorem foldW_eq {G : Type} {op : G → G → G} {e : G} {F F' : Nat → G} {s : Nat} : ∀ l, (∀ k, k < l → F (s + k) = F' (s + k)) → foldW op e F s l = foldW op e F' s l
  | 0, _ => rfl
  | l + 1, h => by
    show op (foldW op e F s l) (F (s + l)) = op (foldW op e F' s l) (F' (s + l))
    rw [foldW_eq l fun k hk => h k (by omega), h l (by omega)]

def nzRows (K : Int) (f : Nat → Pt) (n : Nat) (h : Int) : List (Int × Bool) := nzRow (crB f h) (fun k => (nzP K f h k).x) (fun k => decide ((f k).y ≤ h)) n

theorem row_bit (R : RR n f) (hK : 0 < K) (hd : Div K f) {s : Bool} {i : Nat} (hs : lefB f n (2 * K) i = s) (hc : crB f h i = true) : decide ((f i).y ≤ h) = (nzPar (nzP K f h i).x (nzRows K f n h) ^^ s) := by
  obtain ⟨i1, i2, i3⟩ := nzIn hK hd hc
  have hn := R.n3
  have hx : xw (gp f (2 * K)) (qp f (2 * K) i 1) (i + 1) (n - 1) = nzPar (nzP K f h i).x (nzRows K f n h) := by
    rw [const_any (m' := rowM K f h i) R (by omega) (by omega) (by omega) i1 i2 i]
    unfold nzRows xw
    rw [nzRow_par]
    rw [foldW_eq (F' := fun j => crB f h j && decide ((nzP K f h i).x < (nzP K f h j).x)) (n - 1) fun k hk => crs_row hK hd (h := h) i3 fun hc2 => row_apart R hK hd (by omega) (by omega) hc hc2]
    rw [← foldW_rot cm_xor (fun j => crB f h j && decide ((nzP K f h i).x < (nzP K f h j).x)) (n := n) (fun j => by
      obtain ⟨-, -, e1, e2⟩ := per_any R K h j
      simp only [e1, e2]) i]
    rw [show n = 1 + (n - 1) by omega, foldW_add cm_xor _ i 1, foldW_one cm_xor, Nat.add_sub_cancel_left]
    rw [decide_eq_false (show ¬ (nzP K f h i).x < (nzP K f h i).x by omega), Bool.and_false, Bool.false_xor]
  have hg : gbit (f i) (f (i + 1)) = decide ((f i).y ≤ h) := by
    have := crB_iff'.1 hc
    unfold gbit
    rw [Bool.eq_iff_iff]
    simp only [Bool.or_eq_true, Bool.and_eq_true, decide_eq_true_eq]
    omega
  unfold lefB at hs
  rw [hx, hg] at hs
  rw [← hs]
  cases nzPar (nzP K f h i).x (nzRows K f n h) <;> cases decide ((f i).y ≤ h) <;> rfl

theorem row_sign (R : RR n f) (hK : 0 < K) (hd : Div K f) {s : Bool} (hs : ∀ i, lefB f n (2 * K) i = s) (h : Int) :
    (s = true → 0 ≤ sumS (nzRows K f n h) ∧ (nzRows K f n h ≠ [] → 0 < sumS (nzRows K f n h))) ∧ (s = false → sumS (nzRows K f n h) ≤ 0 ∧ (nzRows K f n h ≠ [] → sumS (nzRows K f n h) < 0)) := by
  refine turns_sign ?_ (nzRow_apart fun i j h1 h2 h3 h4 => row_apart R hK hd h1 (by omega) h3 h4) fun a ha => ?_
  · refine (nzRow_len (d := fun k => decide ((f k).y ≤ h)) (fun k => rfl) n).2 ?_
    have := R.per 0
    rw [Nat.zero_add] at this
    show decide ((f 0).y ≤ h) = decide ((f n).y ≤ h)
    rw [this]
  · obtain ⟨j, -, hj, rfl⟩ := nzRow_mem ha
    exact row_bit R hK hd (hs j) hj

/-! ### the sum over all rows -/

def twoX (K : Int) (f : Nat → Pt) (k : Nat) (h : Int) : Int := 2 * (2 * K * (f k).x + K / vyF f k * (2 * (h - (f k).y) + 1) * ((f (k + 1)).x - (f k).x))

def phiX (K : Int) (f : Nat → Pt) (k : Nat) (c : Int) : Int := 2 * (2 * K * (f k).x * c + K / vyF f k * ((c - (f k).y) * (c - (f k).y)) * ((f (k + 1)).x - (f k).x))

theorem phi_step (K : Int) (f : Nat → Pt) (k : Nat) (c : Int) : phiX K f k (c + 1) - phiX K f k c = twoX K f k c := by unfold phiX twoX; grind

theorem phi_all (hd : Div K f) (k : Nat) (hv : vyF f k ≠ 0) : phiX K f k (f (k + 1)).y - phiX K f k (f k).y = 2 * K * (((f k).x + (f (k + 1)).x) * ((f (k + 1)).y - (f k).y)) := by
  have hE := Int.ediv_mul_cancel (hd k hv)
  unfold phiX
  generalize K / vyF f k = E at *
  unfold vyF at hE
  rw [← hE]
  grind

theorem side_sum (hd : Div K f) {B : Int} {M : Nat} (hM : (M : Int) - B = B) (k : Nat) (h1 : -B ≤ (f k).y ∧ (f k).y ≤ B) (h2 : -B ≤ (f (k + 1)).y ∧ (f (k + 1)).y ≤ B) :
    2 * sumK (fun t => if crB f ((t : Int) - B) k then (if decide ((f k).y ≤ (t : Int) - B) then (nzP K f ((t : Int) - B) k).x else -(nzP K f ((t : Int) - B) k).x) else 0) M = 2 * K * (((f k).x + (f (k + 1)).x) * ((f (k + 1)).y - (f k).y)) := by
  rw [← sumK_mul]
  have hx : ∀ h, 2 * (nzP K f h k).x = twoX K f k h := fun h => rfl
  rcases Int.lt_trichotomy (f k).y (f (k + 1)).y with hv | hv | hv
  · rw [sumK_congr (G := fun t => if (f k).y ≤ (t : Int) - B ∧ (t : Int) - B < (f (k + 1)).y then twoX K f k ((t : Int) - B) else 0) fun t _ => ?_]
    · rw [sumK_rows (phi_step K f k) (by omega) (by omega), show max (f k).y (min ((M : Int) - B) (f (k + 1)).y) = (f (k + 1)).y by omega]
      exact phi_all hd k (by unfold vyF; omega)
    · by_cases hc : crB f ((t : Int) - B) k = true
      · have hc2 := crB_iff'.1 hc
        rw [if_pos hc, decide_eq_true (show (f k).y ≤ (t : Int) - B by omega), if_pos rfl, if_pos (by omega), hx]
      · rw [if_neg hc, if_neg (fun q => hc (crB_iff'.2 (.inl q))), Int.mul_zero]
  · rw [sumK_congr (G := fun t => 0 * 0) fun t _ => ?_]
    · rw [sumK_mul, ← hv]; simp
    · have hc : ¬ crB f ((t : Int) - B) k = true := fun q => by have := crB_iff'.1 q; omega
      rw [if_neg hc]
      simp
  · rw [sumK_congr (G := fun t => if (f (k + 1)).y ≤ (t : Int) - B ∧ (t : Int) - B < (f k).y then -twoX K f k ((t : Int) - B) else 0) fun t _ => ?_]
    · rw [sumK_rows (X2 := fun h => -twoX K f k h) (Φ := fun c => -phiX K f k c) (fun c => by have := phi_step K f k c; omega) (by omega) (by omega), show max (f (k + 1)).y (min ((M : Int) - B) (f k).y) = (f k).y by omega]
      have := phi_all hd k (by unfold vyF; omega)
      omega
    · by_cases hc : crB f ((t : Int) - B) k = true
      · have hc2 := crB_iff'.1 hc
        rw [if_pos hc, decide_eq_false (show ¬ (f k).y ≤ (t : Int) - B by omega), if_neg (by simp), if_pos (by omega), Int.mul_neg, hx]
      · rw [if_neg hc, if_neg (fun q => hc (crB_iff'.2 (.inr q))), Int.mul_zero]

def prodK (f : Nat → Pt) : Nat → Int
  | 0 => 1
  | k + 1 => prodK f k * (if vyF f k = 0 then 1 else ((vyF f k).natAbs : Int))

theorem prodK_pos (f : Nat → Pt) : ∀ k, 0 < prodK f k
  | 0 => by unfold prodK; omega
  | k + 1 => by
    unfold prodK
    refine Int.mul_pos (prodK_pos f k) ?_
    split <;> omega

theorem prodK_dvd (f : Nat → Pt) : ∀ {k j : Nat}, j < k → vyF f j ≠ 0 → vyF f j ∣ prodK f k
  | k + 1, j, hj, hv => by
    unfold prodK
    by_cases e : j = k
    · subst e
      rw [if_neg hv]
      exact Int.dvd_trans (Int.dvd_natAbs.2 (Int.dvd_refl _)) (Int.dvd_mul_left _ _)
    · exact Int.dvd_trans (prodK_dvd f (by omega) hv) (Int.dvd_mul_right _ _)

theorem per_mod (R : RR n f) : ∀ i, f i = f (i % n) := fun i => by
  have hn := R.n3
  induction i using Nat.strongRecOn with
  | ind i ih =>
    by_cases h : i < n
    · rw [Nat.mod_eq_of_lt h]
    · have := R.per (i - n)
      rw [Nat.sub_add_cancel (by omega)] at this
      rw [this, ih (i - n) (by omega), ← Nat.mod_eq_sub_mod (by omega)]

theorem vy_mod (R : RR n f) : ∀ i, vyF f i = vyF f (i % n) := fun i => by
  have hn := R.n3
  induction i using Nat.strongRecOn with
  | ind i ih =>
    by_cases h : i < n
    · rw [Nat.mod_eq_of_lt h]
    · have := (per_any R 0 0 (i - n)).1
      rw [Nat.sub_add_cancel (by omega)] at this
      rw [this, ih (i - n) (by omega), ← Nat.mod_eq_sub_mod (by omega)]

theorem div_prod (R : RR n f) : Div (prodK f n) f := fun i hi => by
  have hn := R.n3
  rw [vy_mod R i] at hi ⊢
  exact prodK_dvd f (Nat.mod_lt _ (by omega)) hi
/-- not all sides are level -/
theorem some_row (R : RR n f) : ∃ k, k < n ∧ vyF f k ≠ 0 := by
  have hn := R.n3
  refine Classical.byContradiction fun hno => ?_
  have hz : ∀ i, vyF f i = 0 := fun i => by
    rw [vy_mod R i]
    exact Classical.byContradiction fun h => hno ⟨i % n, Nat.mod_lt _ (by omega), h⟩
  have hy : ∀ i, (f (i + 1)).y = (f i).y := fun i => by have := hz i; unfold vyF at this; omega
  have hx : ∀ i, (f i).x ≠ (f (i + 1)).x := fun i h => ne_next R i (by
    have := hy i
    cases hf : f i; cases hg : f (i + 1)
    rw [hf, hg] at h this
    simp only at h this
    rw [h, this])
  have hstep : ∀ i, ((f i).x < (f (i + 1)).x → (f (i + 1)).x < (f (i + 2)).x) ∧ ((f (i + 1)).x < (f i).x → (f (i + 2)).x < (f (i + 1)).x) := fun i => by
    have hf := R.fold i
    have ht : turnP (f (i + 1)) (f i) (f (i + 2)) = 0 := by
      unfold turnP
      rw [hy (i + 1), hy i]
      simp
    unfold foldB at hf
    rw [decide_eq_true ht, Bool.true_and, decide_eq_false_iff_not] at hf
    rw [hy (i + 1), hy i, Int.sub_self, Int.mul_zero, Int.add_zero] at hf
    have h2 := hx (i + 1)
    refine ⟨fun h => ?_, fun h => ?_⟩
    · refine Classical.byContradiction fun hc => hf (Int.mul_pos_of_neg_of_neg (by omega) ?_)
      have h3 : (f (i + 1)).x ≠ (f (i + 2)).x := h2
      omega
    · refine Classical.byContradiction fun hc => hf (Int.mul_pos (by omega) ?_)
      have h3 : (f (i + 1)).x ≠ (f (i + 2)).x := h2
      omega
  have e0 := R.per 0
  rw [Nat.zero_add] at e0
  rcases Int.lt_or_gt_of_ne (hx 0) with h | h
  · have hall : ∀ i, (f i).x < (f (i + 1)).x := fun i => by
      induction i with
      | zero => exact h
      | succ i ih => exact (hstep i).1 ih
    have hup : ∀ i, (f 0).x + i ≤ (f i).x := fun i => by
      induction i with
      | zero => omega
      | succ i ih => have := hall i; omega
    have := hup n
    rw [e0] at this
    omega
  · have hall : ∀ i, (f (i + 1)).x < (f i).x := fun i => by
      induction i with
      | zero => exact h
      | succ i ih => exact (hstep i).2 ih
    have hup : ∀ i, (f i).x + i ≤ (f 0).x := fun i => by
      induction i with
      | zero => omega
      | succ i ih => have := hall i; omega
    have := hup n
    rw [e0] at this
    omega

theorem sumK_tel (G : Nat → Int) : ∀ n, sumK (fun k => G (k + 1) - G k) n = G n - G 0
  | 0 => by simp [sumK]
  | n + 1 => by unfold sumK; rw [sumK_tel G n]; omega

theorem rr_area (R : RR n f) : sumK (fun k => (f k).x * (f (k + 1)).y - (f k).y * (f (k + 1)).x) n ≠ 0 := by
  have hn := R.n3
  have hK := prodK_pos f n
  have hd := div_prod R
  generalize prodK f n = K at *
  have hv2 : ∀ i, -(2 * K) < (f (i + 1)).y - (f i).y ∧ (f (i + 1)).y - (f i).y < 2 * K := fun i => by
    by_cases h0 : vyF f i = 0
    · unfold vyF at h0; omega
    · have h1 := Int.le_of_dvd hK (hd i h0)
      have h2 := Int.le_of_dvd hK (Int.neg_dvd.2 (hd i h0))
      unfold vyF at h1 h2
      omega
  have hs := lef_all (D := 2 * K) R (by omega) hv2
  generalize lefB f n (2 * K) 0 = s at hs
  -- all corners lie between -B and B
  obtain ⟨B, hB0, hB⟩ : ∃ B : Int, 0 ≤ B ∧ ∀ i, -B ≤ (f i).y ∧ (f i).y ≤ B := by
    have hnn := sumK_nn (F := fun k => ((f k).y.natAbs : Int)) (k := n) fun j _ => Int.natCast_nonneg _
    refine ⟨_, hnn.1, fun i => ?_⟩
    rw [per_mod R i]
    have := hnn.2 (i % n) (Nat.mod_lt _ (by omega))
    omega
  obtain ⟨M, hM⟩ : ∃ M : Nat, (M : Int) - B = B := ⟨(2 * B).toNat, by omega⟩
  have hsum : 2 * sumK (fun t : Nat => sumS (nzRows K f n ((t : Int) - B))) M = 2 * K * sumK (fun k => (f k).x * (f (k + 1)).y - (f k).y * (f (k + 1)).x) n := by
    have e1 : sumK (fun t : Nat => sumS (nzRows K f n ((t : Int) - B))) M = sumK (fun k => sumK (fun t : Nat => if crB f ((t : Int) - B) k then (if decide ((f k).y ≤ (t : Int) - B) then (nzP K f ((t : Int) - B) k).x else -(nzP K f ((t : Int) - B) k).x) else 0) M) n := by
      rw [sumK_swap]
      exact sumK_congr fun t _ => nzRow_sum n
    rw [e1, ← sumK_mul]
    rw [sumK_congr fun k _ => side_sum hd hM k (hB k) (hB (k + 1)), sumK_mul]
    congr 1
    have e2 : sumK (fun k => ((f k).x + (f (k + 1)).x) * ((f (k + 1)).y - (f k).y)) n = sumK (fun k => ((f k).x * (f (k + 1)).y - (f k).y * (f (k + 1)).x) + ((f (k + 1)).x * (f (k + 1)).y - (f k).x * (f k).y)) n := sumK_congr fun k _ => by grind
    rw [e2, sumK_add, sumK_tel (fun k => (f k).x * (f k).y)]
    have := R.per 0
    rw [Nat.zero_add] at this
    rw [this]
    omega
  -- some row is crossed
  obtain ⟨k, hk, hkv⟩ := some_row R
  obtain ⟨t, ht, hne⟩ : ∃ t : Nat, t < M ∧ nzRows K f n ((t : Int) - B) ≠ [] := by
    have b1 := hB k
    have b2 := hB (k + 1)
    unfold vyF at hkv
    refine ⟨(min (f k).y (f (k + 1)).y + B).toNat, by omega, fun e => ?_⟩
    have hc : crB f ((((min (f k).y (f (k + 1)).y + B).toNat : Nat) : Int) - B) k = true := crB_iff'.2 (by omega)
    have := mem_rowL (c := crB f ((((min (f k).y (f (k + 1)).y + B).toNat : Nat) : Int) - B)) (x := fun j => (nzP K f ((((min (f k).y (f (k + 1)).y + B).toNat : Nat) : Int) - B) j).x) (u := fun j => decide ((f j).y ≤ (((min (f k).y (f (k + 1)).y + B).toNat : Nat) : Int) - B)) hk hc
    unfold nzRows at e
    rw [e] at this
    simp at this
  intro h0
  rw [h0, Int.mul_zero] at hsum
  cases s with
  | true =>
    have hw := fun h => (row_sign R hK hd hs h).1 rfl
    have h1 := (sumK_nn (F := fun t : Nat => sumS (nzRows K f n ((t : Int) - B))) (k := M) fun j _ => (hw _).1).2 t ht
    have h2 := (hw ((t : Int) - B)).2 hne
    omega
  | false =>
    have hw := fun h => (row_sign R hK hd hs h).2 rfl
    have h1 := (sumK_nn (F := fun t : Nat => -1 * sumS (nzRows K f n ((t : Int) - B))) (k := M) fun j _ => by have := (hw ((j : Int) - B)).1; omega).2 t ht
    have h2 := (hw ((t : Int) - B)).2 hne
    rw [sumK_mul] at h1
    omega
end

theorem dbl_sumK (r : List Pt) : ∀ k, dblK r k = sumK (fun j => (cor r j).x * (cor r (j + 1)).y - (cor r j).y * (cor r (j + 1)).x) k
  | 0 => rfl
  | k + 1 => by unfold dblK sumK; rw [dbl_sumK r k]
/-- a right ring has an area -/
theorem dbl_ne {r : List Pt} (h : ringF r = 0) : dblF r ≠ 0 := by
  unfold dblF
  rw [dbl_sumK]
  exact rr_area (rr_of h)

end Go.Proofs.YtejmbaiioblfeaaGreatDoor
