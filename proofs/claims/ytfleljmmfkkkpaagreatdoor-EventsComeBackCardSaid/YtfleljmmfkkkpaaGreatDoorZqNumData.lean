/- Contracts of functions that this seat's laws reach, each: what one call returns and what it leaves in memory; no condition beyond each theorem's own hypotheses. -/
import Derived.Test.YtfleljmmfkkkpaaGreatDoorZqSpoolData
import Derived.Lib.ItoaMem
import Derived.Lib.AtoiTie
set_option linter.unusedVariables false
set_option linter.unusedSimpArgs false
namespace Go.Bl
open Go

def isDig (b : UInt8) : Bool := decide (48 ≤ b.toNat) && decide (b.toNat ≤ 57)

theorem isDig_bd {b : UInt8} (h : isDig b = true) : 48 ≤ b.toNat ∧ b.toNat ≤ 57 := by unfold isDig at h; simpa using h

theorem isDig_val {b : UInt8} (h : isDig b = true) : Lib.digitVal b = some (b.toNat - 48) := by unfold Lib.digitVal; rw [if_pos (isDig_bd h)]

theorem decFrom_snoc (l : List UInt8) (b : UInt8) (acc : Nat) : Lib.decFrom acc (l ++ [b]) = (Lib.decFrom acc l).bind fun n => (Lib.digitVal b).map fun d => n * 10 + d := by
  induction l generalizing acc with
  | nil => simp only [List.nil_append, Lib.decFrom]; cases Lib.digitVal b <;> simp [Lib.decFrom]
  | cons x l ih => simp only [List.cons_append, Lib.decFrom]; cases Lib.digitVal x <;> simp [ih]

theorem dig_of {d : Nat} (h : d < 10) : (UInt8.ofNat (48 + d)).toNat = 48 + d := by
  rw [UInt8.toNat_ofNat']; omega

theorem dig_back {b : UInt8} (h : isDig b = true) : UInt8.ofNat (48 + (b.toNat - 48)) = b := by
  have := isDig_bd h
  rw [show 48 + (b.toNat - 48) = b.toNat by omega]
  simp

theorem isDig_of {d : Nat} (h : d < 10) : isDig (UInt8.ofNat (48 + d)) = true := by
  unfold isDig; rw [dig_of h]; simp; omega

theorem decDigits_digs (u : Nat) : (Lib.decDigits u).all isDig = true := by
  induction u using Nat.strongRecOn with
  | _ u ih =>
    rw [Lib.decDigits]
    split
    · rename_i h; rw [List.all_cons, isDig_of h]; rfl
    · rename_i h
      rw [List.all_append, ih (u / 10) (by omega)]
      rw [List.all_cons, isDig_of (d := u % 10) (by omega)]; rfl

theorem decFrom_dec (u : Nat) : Lib.decFrom 0 (Lib.decDigits u) = some u := by
  induction u using Nat.strongRecOn with
  | _ u ih =>
    rw [Lib.decDigits]
    split
    · rename_i h
      simp only [Lib.decFrom, isDig_val (isDig_of h), dig_of h]
      simp
    · rename_i h
      rw [decFrom_snoc, ih (u / 10) (by omega), isDig_val (isDig_of (d := u % 10) (by omega)), dig_of (d := u % 10) (by omega)]
      simp only [Option.bind_some, Option.map_some, Option.some.injEq]
      omega

theorem decDigits_ne (u : Nat) : Lib.decDigits u ≠ [] := fun e => by
  have := Lib.decDigits_length u
  rw [e] at this
  have := Lib.nDigits_pos u
  simp at *; omega

theorem decDigits_head (u : Nat) : 1 ≤ u → (Lib.decDigits u).head? ≠ some 48 := by
  induction u using Nat.strongRecOn with
  | _ u ih =>
    intro h1
    rw [Lib.decDigits]
    split
    · rename_i h
      simp only [List.head?_cons, ne_eq, Option.some.injEq]
      intro e
      have := dig_of h
      rw [e] at this
      simp at this; omega
    · rename_i h
      have := ih (u / 10) (by omega) (by omega)
      cases hd : Lib.decDigits (u / 10) with
      | nil => exact absurd hd (decDigits_ne _)
      | cons x r => rw [hd] at this; simpa using this

theorem dec_of : ∀ (n : Nat) (l : List UInt8), l.length = n → l.all isDig = true → l ≠ [] → (l.head? = some 48 → l.length = 1) → ∃ u, Lib.decFrom 0 l = some u ∧ Lib.decDigits u = l
  | 0, l, hl, _, h0, _ => absurd (List.eq_nil_of_length_eq_zero hl) h0
  | n + 1, l, hl, hd, h0, hz => by
    obtain ⟨r, b, rfl⟩ : ∃ r b, l = r ++ [b] := ⟨l.dropLast, l.getLast h0, (List.dropLast_concat_getLast h0).symm⟩
    rw [List.all_append, Bool.and_eq_true] at hd
    have hb : isDig b = true := by simpa using hd.2
    have hbd := isDig_bd hb
    by_cases hr : r = []
    · subst hr
      refine ⟨b.toNat - 48, ?_, ?_⟩
      · simp [Lib.decFrom, isDig_val hb]
      · rw [Lib.decDigits, dif_pos (by omega), dig_back hb]; rfl
    · have hrl : r.length = n := by simpa using hl
      have hrp : 1 ≤ r.length := List.length_pos_iff.2 hr
      have hh : (r ++ [b]).head? = r.head? := by
        cases r with
        | nil => exact absurd rfl hr
        | cons x t => rfl
      have hz2 : r.head? ≠ some 48 := fun e => by
        have := hz (by rw [hh]; exact e)
        simp at this; exact hr this
      obtain ⟨u, h1, h2⟩ := dec_of n r hrl hd.1 hr (fun e => absurd e hz2)
      have hu : 1 ≤ u := by
        rcases Nat.eq_zero_or_pos u with rfl | h
        · exfalso
          rw [Lib.decDigits, dif_pos (by omega)] at h2
          rw [← h2] at hz2
          exact hz2 rfl
        · exact h
      refine ⟨u * 10 + (b.toNat - 48), ?_, ?_⟩
      · rw [decFrom_snoc, h1, isDig_val hb]; rfl
      · rw [Lib.decDigits, dif_neg (by omega), show (u * 10 + (b.toNat - 48)) / 10 = u by omega, show (u * 10 + (b.toNat - 48)) % 10 = b.toNat - 48 by omega, h2, dig_back hb]

theorem nDigits_le {u k : Nat} (hk : 1 ≤ k) (h : u < 10 ^ k) : Lib.nDigits u ≤ k := by
  induction k generalizing u with
  | zero => omega
  | succ k ih =>
    by_cases hu : u < 10
    · rw [Lib.nDigits_small hu]; omega
    · rw [Lib.nDigits_big hu]
      rcases Nat.eq_zero_or_pos k with rfl | hk0
      · simp at h; omega
      · have := ih hk0 (u := u / 10) (by rw [Nat.pow_succ] at h; omega)
        omega

/-- a text's sign, and what stands behind it -/
def negB (s : List UInt8) : Bool := s.head? == some 45

def bodyB (s : List UInt8) : List UInt8 := if negB s then s.tail else s
/-- the digits are there, and not too many -/
def digsOk (s : List UInt8) : Bool := !(bodyB s).isEmpty && decide ((bodyB s).length ≤ 15) && (bodyB s).all isDig

def zeroB (s : List UInt8) : Bool := (bodyB s).head? == some 48 && (decide (1 < (bodyB s).length) || negB s)

def magB (s : List UInt8) : Nat := (Lib.decFrom 0 (bodyB s)).getD 0

def numV (s : List UInt8) : Int := if negB s then -(magB s : Int) else magB s
/-- the number that a text is -/
def numK (s : List UInt8) : Option Int := if digsOk s && !zeroB s then some (numV s) else none

theorem neg_itoa (n : Int) : negB (Lib.itoa n) = decide (n < 0) := by
  by_cases h : n < 0
  · obtain ⟨u, rfl⟩ : ∃ u : Nat, n = -(u : Int) := ⟨n.natAbs, by omega⟩
    rw [Lib.itoa_neg u (by omega), decide_eq_true h]; rfl
  · obtain ⟨u, rfl⟩ : ∃ u : Nat, n = u := ⟨n.toNat, by omega⟩
    rw [Lib.itoa_nonneg]
    simp only [h, decide_false]
    unfold negB
    have hd := decDigits_digs u
    cases hx : Lib.decDigits u with
    | nil => rfl
    | cons x r =>
      rw [hx] at hd
      simp only [List.all_cons, Bool.and_eq_true] at hd
      have := isDig_bd hd.1
      simp only [List.head?_cons]
      rw [beq_eq_false_iff_ne]
      intro e
      injection e with e
      subst e
      simp at this

theorem body_itoa (n : Int) : bodyB (Lib.itoa n) = Lib.decDigits n.natAbs := by
  unfold bodyB
  rw [neg_itoa]
  by_cases h : n < 0
  · obtain ⟨u, rfl⟩ : ∃ u : Nat, n = -(u : Int) := ⟨n.natAbs, by omega⟩
    rw [Lib.itoa_neg u (by omega), decide_eq_true h, Int.natAbs_neg]; rfl
  · obtain ⟨u, rfl⟩ : ∃ u : Nat, n = u := ⟨n.toNat, by omega⟩
    rw [Lib.itoa_nonneg, decide_eq_false h]; rfl

theorem num_itoa {n : Int} (h : -1000000000000000 < n ∧ n < 1000000000000000) : numK (Lib.itoa n) = some n := by
  have hu : n.natAbs < 10 ^ 15 := by omega
  have h1 : digsOk (Lib.itoa n) = true := by
    unfold digsOk
    rw [body_itoa, decDigits_digs, Lib.decDigits_length]
    have := nDigits_le (k := 15) (by omega) hu
    simp only [this, decide_true, Bool.and_true]
    cases hd : Lib.decDigits n.natAbs with
    | nil => exact absurd hd (decDigits_ne _)
    | cons => rfl
  have h2 : zeroB (Lib.itoa n) = false := by
    unfold zeroB
    rw [body_itoa, neg_itoa, Lib.decDigits_length]
    rcases Nat.eq_zero_or_pos n.natAbs with h0 | h0
    · obtain rfl : n = 0 := by omega
      have : Lib.nDigits (0 : Int).natAbs = 1 := Lib.nDigits_small (by decide)
      rw [this]; simp
    · have := decDigits_head n.natAbs h0
      rw [beq_eq_false_iff_ne.2 this]; rfl
  have h3 : magB (Lib.itoa n) = n.natAbs := by unfold magB; rw [body_itoa, decFrom_dec]; rfl
  unfold numK
  rw [h1, h2]
  simp only [Bool.not_false, Bool.and_self, if_true, Option.some.injEq]
  unfold numV
  rw [neg_itoa, h3]
  by_cases h : n < 0 <;> simp [h] <;> omega

theorem digsOk_parts {s : List UInt8} (h : digsOk s = true) : bodyB s ≠ [] ∧ (bodyB s).length ≤ 15 ∧ (bodyB s).all isDig = true := by
  unfold digsOk at h
  simp only [Bool.and_eq_true, Bool.not_eq_true', decide_eq_true_eq] at h
  exact ⟨fun e => by rw [e] at h; simp at h, h.1.2, h.2⟩

theorem body_cases (s : List UInt8) : (negB s = true ∧ s = 45 :: bodyB s) ∨ (negB s = false ∧ s = bodyB s) := by
  unfold bodyB
  cases hn : negB s
  · right; simp
  · left
    refine ⟨rfl, ?_⟩
    unfold negB at hn
    cases s with
    | nil => simp at hn
    | cons x r => simp at hn; subst hn; simp

theorem decFrom_digs : ∀ (l : List UInt8) (acc : Nat), l.all isDig = true → ∃ u, Lib.decFrom acc l = some u
  | [], acc, _ => ⟨acc, rfl⟩
  | b :: l, acc, h => by
    simp only [List.all_cons, Bool.and_eq_true] at h
    obtain ⟨u, hu⟩ := decFrom_digs l (acc * 10 + (b.toNat - 48)) h.2
    exact ⟨u, by simp only [Lib.decFrom, isDig_val h.1, hu]⟩

theorem itoa_num {s : List UInt8} (h : digsOk s = true) (hz : zeroB s = false) : Lib.itoa (numV s) = s := by
  obtain ⟨h1, h2, h3⟩ := digsOk_parts h
  unfold zeroB at hz
  obtain ⟨u, hu, hd⟩ := dec_of _ (bodyB s) rfl h3 h1 (fun e => by
    rw [e] at hz
    simp at hz
    have := List.length_pos_iff.2 h1
    omega)
  have hm : magB s = u := by unfold magB; rw [hu]; rfl
  unfold numV
  rw [hm]
  rcases body_cases s with ⟨hn, hs⟩ | ⟨hn, hs⟩
  · rw [hn]
    have hu1 : 1 ≤ u := by
      rcases Nat.eq_zero_or_pos u with rfl | h0
      · exfalso
        rw [Lib.decDigits, dif_pos (by omega)] at hd
        rw [← hd, hn] at hz
        simp at hz
      · exact h0
    simp only [if_true]
    rw [Lib.itoa_neg u hu1, hd]; exact hs.symm
  · rw [hn]
    simp only [Bool.false_eq_true, if_false]
    rw [Lib.itoa_nonneg, hd]; exact hs.symm

theorem mag_lt {s : List UInt8} (h : digsOk s = true) : magB s < 1000000000000000 := by
  obtain ⟨h1, h2, h3⟩ := digsOk_parts h
  obtain ⟨u, hu⟩ := decFrom_digs _ 0 h3
  have hl := Lib.decFrom_lt _ _ _ hu
  have hp : 10 ^ (bodyB s).length ≤ 10 ^ 15 := Nat.pow_le_pow_right (by omega) h2
  unfold magB
  rw [hu]
  simp only [Option.getD_some]
  omega

theorem numV_bd {s : List UInt8} (h : digsOk s = true) : -1000000000000000 < numV s ∧ numV s < 1000000000000000 := by
  have := mag_lt h
  unfold numV
  split <;> omega
/-- a text is a number just where it is the number's numeral -/
theorem numK_iff {s : List UInt8} {n : Int} : numK s = some n ↔ Lib.itoa n = s ∧ -1000000000000000 < n ∧ n < 1000000000000000 := by
  constructor
  · intro h
    unfold numK at h
    split at h
    · rename_i hc
      simp only [Bool.and_eq_true, Bool.not_eq_true'] at hc
      injection h with h
      subst h
      exact ⟨itoa_num hc.1 hc.2, numV_bd hc.1⟩
    · cases h
  · rintro ⟨rfl, h⟩
    exact num_itoa h
/-- the reference's way: what is read is written so -/
theorem numK_ref {s : List UInt8} (h : digsOk s = true) : numK s = if Lib.itoa (numV s) = s then some (numV s) else none := by
  by_cases hz : zeroB s = false
  · unfold numK; rw [h, hz, if_pos (itoa_num h hz)]; rfl
  · have hz2 : zeroB s = true := by simpa using hz
    have hk : numK s = none := by unfold numK; rw [h, hz2]; rfl
    rw [hk]
    split
    · rename_i he
      have := num_itoa (numV_bd h)
      rw [he, hk] at this
      cases this
    · rfl

theorem atoi_body {s : List UInt8} (h : digsOk s = true) : Lib.atoi (bodyB s) = some (magB s : Int) := by
  obtain ⟨h1, h2, h3⟩ := digsOk_parts h
  obtain ⟨u, hu⟩ := decFrom_digs _ 0 h3
  have hm : magB s = u := by unfold magB; rw [hu]; rfl
  rw [hm]
  cases hb : bodyB s with
  | nil => exact absurd hb h1
  | cons b r =>
    rw [hb] at h3 hu
    have hx := isDig_bd (by simpa using (List.all_eq_true.1 h3 b (by simp)) : isDig b = true)
    have e1 : (b == 45) = false := by rw [beq_eq_false_iff_ne]; intro e; subst e; simp at hx
    have e2 : (b == 43) = false := by rw [beq_eq_false_iff_ne]; intro e; subst e; simp at hx
    simp only [Lib.atoi, e1, e2, Lib.decNat, hu]
    rfl

theorem atoi_whole {s : List UInt8} (h : digsOk s = true) : Lib.atoi s = some (numV s) := by
  obtain ⟨h1, h2, h3⟩ := digsOk_parts h
  obtain ⟨u, hu⟩ := decFrom_digs _ 0 h3
  have hm : magB s = u := by unfold magB; rw [hu]; rfl
  unfold numV
  rcases body_cases s with ⟨hn, hs⟩ | ⟨hn, hs⟩
  · have := atoi_body h
    rw [hn, hs]
    unfold Lib.atoi
    have hne : (bodyB s).isEmpty = false := by
      cases hb : bodyB s with
      | nil => exact absurd hb h1
      | cons => rfl
    simp only [beq_self_eq_true, if_true, Lib.decNat, hne, Bool.false_eq_true, if_false, hu, Option.map_some, Option.some.injEq]
    rw [← hs, hm]
  · rw [hn]
    have e : Lib.atoi s = Lib.atoi (bodyB s) := by rw [← hs]
    rw [e, atoi_body h]; rfl

end Go.Bl
