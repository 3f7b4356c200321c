/- Contracts of functions that this seat's laws reach, each: what one call returns and what it leaves in memory; no condition beyond each theorem's own hypotheses. -/
import Derived.Test.YtlfobddinilmcaaDoorLib
set_option linter.unusedVariables false
set_option linter.unusedSimpArgs false
namespace Go.Bl
open Go.RowKit

/-! ## beads -/
structure Bead where
  long : Int
  wide : Int
  high : Int
deriving DecidableEq, Inhabited

instance : Enc Bead where
  sz := 3
  rep := fun _ _ x cs => cs = [.int .i64 x.long, .int .i64 x.wide, .int .i64 x.high]
  len := by rintro w lo x cs rfl; rfl
  one := by rintro w lo x cs rfl u hu; simp at hu; rcases hu with rfl | rfl | rfl <;> rfl
  keep := fun h _ => h
  mono := fun h _ => h

instance : Flat Bead := ⟨fun h => h, by decide⟩

def outB (n a b : Int) : Bool := decide (n < a) || decide (b < n)
def inB (n a b : Int) : Bool := decide (a ≤ n) && decide (n ≤ b)

def spanF (n a b : Int) : Int := if outB n a b then 1 else 0
theorem inB_of {n a b : Int} (h : a ≤ n) (h' : n ≤ b) : inB n a b = true := by simp [inB, h, h']
theorem inB_lo {n a b : Int} (h : ¬ a ≤ n) : inB n a b = false := by unfold inB; rw [decide_eq_false h]; rfl
theorem inB_hi {n a b : Int} (h : ¬ n ≤ b) : inB n a b = false := by unfold inB; rw [decide_eq_false h, Bool.and_false]
theorem inB_not (n a b : Int) : (!inB n a b) = outB n a b := by
  unfold inB outB
  by_cases h1 : n < a <;> by_cases h2 : b < n <;> simp [h1, h2] <;> omega
theorem spanF_in {n a b : Int} (h : inB n a b = true) : spanF n a b = 0 := by
  unfold spanF; rw [← inB_not, h]; rfl
theorem spanF_out {n a b : Int} (h : inB n a b = false) : spanF n a b = 1 := by
  unfold spanF; rw [← inB_not, h]; rfl
theorem outB_false {n a b : Int} (h : outB n a b = false) : a ≤ n ∧ n ≤ b := by
  unfold outB at h; simp at h; omega
theorem outB_true {n a b : Int} (h : outB n a b = true) : n < a ∨ b < n := by
  unfold outB at h; simpa using h

def okBead (x : Bead) : Bool := !(outB x.long 0 10000000 || outB x.wide 1 5000 || outB x.high 1 5000)
def checkBeads (l : List Bead) : Int := if 5000 < l.length then 2 else if l.all okBead then 0 else 1
theorem okBead_bd {x : Bead} (h : okBead x = true) : (0 ≤ x.long ∧ x.long ≤ 10000000) ∧ (1 ≤ x.wide ∧ x.wide ≤ 5000) ∧ (1 ≤ x.high ∧ x.high ≤ 5000) := by
  unfold okBead at h
  simp only [Bool.not_eq_true', Bool.or_eq_false_iff] at h
  exact ⟨outB_false h.1.1, outB_false h.1.2, outB_false h.2⟩
theorem checkBeads_zero {l : List Bead} : checkBeads l = 0 ↔ l.length ≤ 5000 ∧ l.all okBead = true := by
  unfold checkBeads
  split
  · constructor
    · intro h; cases h
    · intro h; omega
  · split <;> simp_all <;> omega

/-- the volume of a bead, wrapped and whole -/
def bv (x : Bead) : Int := wrap64 (wrap64 (x.long * x.wide) * x.high)
def bw (x : Bead) : Int := x.long * x.wide * x.high
def volW (l : List Bead) : Int := l.foldl (fun n x => wrap64 (n + bv x)) 0
def vol (l : List Bead) : Int := l.foldl (fun n x => n + bw x) 0
theorem volW_snoc (l : List Bead) (x : Bead) : volW (l ++ [x]) = wrap64 (volW l + bv x) := by unfold volW; rw [List.foldl_append]; rfl
theorem vol_snoc (l : List Bead) (x : Bead) : vol (l ++ [x]) = vol l + bw x := by unfold vol; rw [List.foldl_append]; rfl
theorem bw_bd {x : Bead} (h : okBead x = true) : (0 ≤ x.long * x.wide ∧ x.long * x.wide ≤ 50000000000) ∧ 0 ≤ bw x ∧ bw x ≤ 250000000000000 := by
  obtain ⟨⟨h1, h2⟩, ⟨h3, h4⟩, ⟨h5, h6⟩⟩ := okBead_bd h
  have a1 : 0 ≤ x.long * x.wide := Int.mul_nonneg h1 (by omega)
  have a2 : x.long * x.wide ≤ 10000000 * 5000 := Int.mul_le_mul h2 h4 (by omega) (by omega)
  have a3 : x.long * x.wide * x.high ≤ 50000000000 * 5000 := Int.mul_le_mul (by omega) h6 (by omega) (by omega)
  exact ⟨⟨a1, by omega⟩, Int.mul_nonneg a1 (by omega), by unfold bw; omega⟩
theorem bv_eq {x : Bead} (h : okBead x = true) : bv x = bw x := by
  obtain ⟨h1, h2, h3⟩ := bw_bd h
  unfold bv
  rw [i64_in (n := x.long * x.wide) (by omega)]
  exact i64_in (by unfold bw at h2 h3; omega)
theorem vol_bd (l : List Bead) (h : l.all okBead = true) : 0 ≤ vol l ∧ vol l ≤ l.length * 250000000000000 := by
  suffices ∀ (n : Int), 0 ≤ n → n ≤ l.foldl (fun n x => n + bw x) n ∧ l.foldl (fun n x => n + bw x) n ≤ n + l.length * 250000000000000 by
    have := this 0 (by omega); unfold vol; omega
  induction l with
  | nil => intro n hn; simp
  | cons x l ih =>
    simp only [List.all_cons, Bool.and_eq_true] at h
    intro n hn
    have hb := bw_bd h.1
    have := ih h.2 (n + bw x) (by omega)
    simp only [List.foldl_cons, List.length_cons]
    omega
theorem volW_eq (l : List Bead) (h : l.all okBead = true) (hl : l.length ≤ 5000) : volW l = vol l := by
  suffices ∀ (n : Int), 0 ≤ n → n + l.length * 250000000000000 ≤ 1250000000000000000 → l.foldl (fun n x => wrap64 (n + bv x)) n = l.foldl (fun n x => n + bw x) n by
    exact this 0 (by omega) (by omega)
  clear hl
  induction l with
  | nil => intro n _ _; rfl
  | cons x l ih =>
    simp only [List.all_cons, Bool.and_eq_true] at h
    intro n hn hb
    have hx := bw_bd h.1
    simp only [List.length_cons] at hb
    simp only [List.foldl_cons]
    rw [bv_eq h.1, i64_in (by omega)]
    exact ih h.2 _ (by omega) (by omega)
theorem all_take {α : Type} {p : α → Bool} {l : List α} (h : l.all p = true) (k : Nat) : (l.take k).all p = true := by
  rw [List.all_eq_true] at *
  exact fun x hx => h x (List.mem_of_mem_take hx)
theorem vol_take_le (l : List Bead) (h : l.all okBead = true) (k : Nat) : vol (l.take k) ≤ vol l := by
  have h1 : vol l = (l.drop k).foldl (fun n x => n + bw x) (vol (l.take k)) := by
    unfold vol; rw [← List.foldl_append, List.take_append_drop]
  rw [h1]
  have hd : (l.drop k).all okBead = true := by
    rw [List.all_eq_true] at *
    exact fun x hx => h x (List.mem_of_mem_drop hx)
  generalize l.drop k = d at hd
  generalize vol (l.take k) = m
  induction d generalizing m with
  | nil => simp
  | cons x d ih =>
    simp only [List.all_cons, Bool.and_eq_true] at hd
    have := bw_bd hd.1
    have := ih hd.2 (m + bw x)
    simp only [List.foldl_cons]; omega
theorem take_snoc {α : Type} {l : List α} {k : Nat} (h : k < l.length) : l.take (k + 1) = l.take k ++ [l[k]] := by
  rw [List.take_succ_eq_append_getElem h]

/-- the errors of beads and areas -/
def orS (a b : Int) : Int := if a ≠ 0 then a else b
theorem orS_zero {a : Int} (h : a = 0) (b : Int) : orS a b = b := by unfold orS; rw [if_neg (by simp [h])]
theorem orS_ne {a : Int} (h : a ≠ 0) (b : Int) : orS a b = a := by unfold orS; rw [if_pos h]
def areaFault (l : List Bead) (area : Int) : Int :=
  if checkBeads l ≠ 0 then checkBeads l else if outB area 1 100000000 then 1 else if 1000000000000000000 < volW l then 12 else 0
theorem areaFault_zero {l : List Bead} {area : Int} (h : areaFault l area = 0) : l.length ≤ 5000 ∧ l.all okBead = true ∧ 1 ≤ area ∧ area ≤ 100000000 ∧ vol l ≤ 1000000000000000000 := by
  unfold areaFault at h
  split at h
  · rename_i h1; exact absurd h h1
  · rename_i h1
    have h1' : checkBeads l = 0 := by simpa using h1
    obtain ⟨h2, h3⟩ := checkBeads_zero.1 h1'
    split at h
    · cases h
    · rename_i h4
      have := outB_false (by simpa using h4)
      split at h
      · cases h
      · rename_i h5
        rw [volW_eq l h3 h2] at h5
        exact ⟨h2, h3, this.1, this.2, by omega⟩
def fedFault (l : List Bead) : Int := if checkBeads l ≠ 0 then checkBeads l else if 1000000000000000000 < volW l then 12 else 0
theorem areaFault_eq (l : List Bead) (area : Int) : orS (orS (checkBeads l) (spanF area 1 100000000)) (fedFault l) = areaFault l area := by
  unfold areaFault fedFault orS spanF
  by_cases h1 : checkBeads l ≠ 0
  · simp [h1]
  · by_cases h2 : outB area 1 100000000 = true
    · simp [h1, h2]
    · simp [h1, h2]

def posOf (l : List Bead) (area : Int) (k : Nat) : List Int := (List.range k).map fun i => (2 * vol (l.take (i + 1)) + area) / (2 * area)
theorem posOf_len (l : List Bead) (area : Int) (k : Nat) : (posOf l area k).length = k := by simp [posOf]
theorem posOf_succ (l : List Bead) (area : Int) (k : Nat) : posOf l area (k + 1) = posOf l area k ++ [(2 * vol (l.take (k + 1)) + area) / (2 * area)] := by
  unfold posOf; rw [List.range_succ, List.map_append]; rfl
def positions (l : List Bead) (area : Int) : List Int := if areaFault l area ≠ 0 then [] else posOf l area l.length

structure Frac where
  num : Int
  den : Int
deriving DecidableEq, Inhabited
def gcdI (a b : Int) : Int := (Int.gcd a b : Int)
def lowest (num den : Int) : Frac := ⟨num / gcdI num den, den / gcdI num den⟩
theorem gcdI_pos (a : Int) {b : Int} (h : 1 ≤ b) : 1 ≤ gcdI a b := by
  have := Int.gcd_pos_of_ne_zero_right a (show b ≠ 0 by omega)
  unfold gcdI; omega
theorem gcdI_step {a b : Int} (h0 : 0 ≤ a) (h1 : 1 ≤ b) : gcdI b (a % b) = gcdI a b := by
  obtain ⟨m, rfl⟩ := Int.eq_ofNat_of_zero_le h0
  obtain ⟨n, rfl⟩ := Int.eq_ofNat_of_zero_le (show 0 ≤ b by omega)
  unfold gcdI
  rw [← Int.natCast_emod, Int.gcd_natCast_natCast, Int.gcd_natCast_natCast, Nat.gcd_comm m n, Nat.gcd_rec n m, Nat.gcd_comm]
theorem gcdI_zero {a : Int} (h : 0 ≤ a) : gcdI a 0 = a := by
  unfold gcdI; rw [Int.gcd_zero_right]; omega

def orL : List Int → Int
  | [] => 0
  | x :: r => if x ≠ 0 then x else orL r
theorem orL_two (a b : Int) : orL [a, b] = orS a b := by
  unfold orL orS orL orL
  by_cases h : a = 0 <;> by_cases h2 : b = 0 <;> simp [h, h2]
theorem orL_drop {l : List Int} {k : Nat} (hk : k < l.length) : orL (l.drop k) = if l[k] ≠ 0 then l[k] else orL (l.drop (k + 1)) := by
  rw [List.drop_eq_getElem_cons hk]; rfl
def eqB {α : Type} [DecidableEq α] (a b : List α) : Bool := decide (a = b)
theorem eqB_len {α : Type} [DecidableEq α] {a b : List α} (h : a.length ≠ b.length) : eqB a b = false := by
  unfold eqB; simp; rintro rfl; exact h rfl
theorem eqB_ne {α : Type} [DecidableEq α] {a b : List α} {k : Nat} (h1 : k < a.length) (h2 : k < b.length) (h : a[k] ≠ b[k]) : eqB a b = false := by
  unfold eqB; simp; rintro rfl; exact h rfl
theorem eqB_all {α : Type} [DecidableEq α] {a b : List α} (h : a.length = b.length) (h2 : a.take a.length = b.take a.length) : eqB a b = true := by
  unfold eqB; rw [List.take_length, h, List.take_length] at h2; simp [h2]

/-- the differences of a list that goes downwards from its end; i: those from i on are done -/
def diffFrom (p : List Int) (i : Nat) : List Int := (List.range p.length).map fun j => if i ≤ j ∧ 0 < j then wrap64 (p.getD j 0 - p.getD (j - 1) 0) else p.getD j 0
theorem diffFrom_len (p : List Int) (i : Nat) : (diffFrom p i).length = p.length := by simp [diffFrom]
theorem diffFrom_top (p : List Int) : diffFrom p p.length = p := by
  apply List.ext_getElem
  · exact diffFrom_len _ _
  · intro j h1 h2
    simp only [diffFrom, List.getElem_map, List.getElem_range]
    rw [if_neg (by omega)]; simp [List.getD, h2]
theorem diffFrom_get {p : List Int} {i j : Nat} (h : j < (diffFrom p i).length) : (diffFrom p i)[j] = if i ≤ j ∧ 0 < j then wrap64 (p.getD j 0 - p.getD (j - 1) 0) else p.getD j 0 := by
  simp only [diffFrom, List.getElem_map, List.getElem_range]
theorem diffFrom_step {p : List Int} {k : Nat} (h : k + 1 < p.length) : diffFrom p (k + 1) = (diffFrom p (k + 2)).set (k + 1) (wrap64 ((diffFrom p (k + 2))[k + 1]'(by rw [diffFrom_len]; exact h) - (diffFrom p (k + 2))[k]'(by rw [diffFrom_len]; omega))) := by
  have e1 : (diffFrom p (k + 2))[k + 1]'(by rw [diffFrom_len]; exact h) = p.getD (k + 1) 0 := by rw [diffFrom_get, if_neg (by omega)]
  have e2 : (diffFrom p (k + 2))[k]'(by rw [diffFrom_len]; omega) = p.getD k 0 := by rw [diffFrom_get, if_neg (by omega)]
  rw [e1, e2]
  apply List.ext_getElem
  · simp [diffFrom_len]
  · intro j h1 h2
    rw [List.getElem_set, diffFrom_get]
    by_cases hj : k + 1 = j
    · subst hj
      simp
    · rw [if_neg hj, diffFrom_get]
      by_cases h3 : k + 1 ≤ j ∧ 0 < j
      · rw [if_pos h3, if_pos (by omega)]
      · rw [if_neg h3, if_neg (by omega)]
def amounts (l : List Bead) (area : Int) : List Int := diffFrom (positions l area) 1
theorem positions_bd {l : List Bead} {area : Int} (h : areaFault l area = 0) : ∀ x ∈ positions l area, 0 ≤ x ∧ x ≤ 3000000000000000000 := by
  obtain ⟨h1, h2, h3, h4, h5⟩ := areaFault_zero h
  unfold positions
  rw [if_neg (by simp [h])]
  intro x hx
  simp only [posOf, List.mem_map, List.mem_range] at hx
  obtain ⟨i, _, rfl⟩ := hx
  have a1 := (vol_bd _ (all_take h2 (i + 1))).1
  have a2 := vol_take_le l h2 (i + 1)
  have a3 : 0 ≤ 2 * vol (l.take (i + 1)) + area := by omega
  refine ⟨Int.ediv_nonneg a3 (by omega), ?_⟩
  have := Int.ediv_le_self (2 * area) a3
  omega

theorem bead_set0 (x : Bead) (v : Int) (w : World) (lo : Nat) : ∀ c1, Enc.rep w lo x c1 → Enc.rep w lo (⟨v, x.wide, x.high⟩ : Bead) (c1.set 0 (.int .i64 v)) := by rintro c1 rfl; rfl
theorem bead_set1 (x : Bead) (v : Int) (w : World) (lo : Nat) : ∀ c1, Enc.rep w lo x c1 → Enc.rep w lo (⟨x.long, v, x.high⟩ : Bead) (c1.set 1 (.int .i64 v)) := by rintro c1 rfl; rfl
theorem bead_set2 (x : Bead) (v : Int) (w : World) (lo : Nat) : ∀ c1, Enc.rep w lo x c1 → Enc.rep w lo (⟨x.long, x.wide, v⟩ : Bead) (c1.set 2 (.int .i64 v)) := by rintro c1 rfl; rfl
theorem Own.set_bead {w : World} {lo : Nat} {e : TypeId} {g c : Nat} {l : List Bead} (h : Own w lo e (some ⟨g, 0, none⟩) c l) {i : Nat} (hi : i < l.length) (a b d : Int) :
    Own (((w.setCell ⟨g, i * 3, none⟩ (.int .i64 a)).setCell ⟨g, i * 3 + 1, none⟩ (.int .i64 b)).setCell ⟨g, i * 3 + 2, none⟩ (.int .i64 d)) lo e (some ⟨g, 0, none⟩) c (l.set i ⟨a, b, d⟩) := by
  have h1 := h.put hi (j := 0) (by decide) (bead_set0 l[i] a w lo)
  have h2 := h1.put (i := i) (j := 1) (by simpa using hi) (by decide) (bead_set1 _ b _ lo)
  have h3 := h2.put (i := i) (j := 2) (by simpa using hi) (by decide) (bead_set2 _ d _ lo)
  simp only [List.set_set, List.getElem_set_self] at h3
  exact h3
theorem round_half {v a : Int} (h0 : 0 ≤ v) (h1 : 1 ≤ a) : (2 * v + a) / (2 * a) = v / a + (if a ≤ 2 * (v % a) then 1 else 0) := by
  have e := Int.emod_add_mul_ediv v a
  have r0 := Int.emod_nonneg v (show a ≠ 0 by omega)
  have r1 := Int.emod_lt_of_pos v (show 0 < a by omega)
  generalize v % a = r at *
  generalize v / a = q at *
  have e2 : 2 * v + a = (2 * r + a) + (2 * a) * q := by rw [← e, Int.mul_add, Int.mul_assoc]; omega
  rw [e2, Int.add_mul_ediv_left _ _ (show 2 * a ≠ 0 by omega)]
  by_cases h : a ≤ 2 * r
  · rw [if_pos h]
    have : (2 * r + a) / (2 * a) = 1 := by
      rw [Int.ediv_eq_iff_of_pos (by omega)]; omega
    omega
  · rw [if_neg h]
    have : (2 * r + a) / (2 * a) = 0 := Int.ediv_eq_zero_of_lt (by omega) (by omega)
    omega
/-- the last one before k -/
def lastI (p : List Int) (k : Nat) : Int := if k = 0 then 0 else p.getD (k - 1) 0
theorem diff_last {p : List Int} (hp : ∀ x ∈ p, 0 ≤ x ∧ x ≤ 3000000000000000000) {k : Nat} (hk : k < p.length) : (diffFrom p 1)[k]'(by rw [diffFrom_len]; exact hk) = wrap64 (p[k] - lastI p k) := by
  rw [diffFrom_get]
  unfold lastI
  by_cases h : k = 0
  · subst h
    rw [if_neg (by omega), if_pos rfl]
    have := hp p[0] (List.getElem_mem _)
    rw [i64_in (by omega)]
    simp [List.getD, hk]
  · rw [if_pos (by omega), if_neg h]
    simp [List.getD, hk]
theorem lastI_succ {p : List Int} {k : Nat} (hk : k < p.length) : lastI p (k + 1) = p[k] := by
  unfold lastI; simp [List.getD, hk]

def volumeOf (l : List Bead) : Int := if fedFault l ≠ 0 then 0 else volW l
def needOf (l : List Bead) (area : Int) : Frac := if areaFault l area ≠ 0 then ⟨0, 0⟩ else lowest (volW l) area
theorem volW_of_fault {l : List Bead} {area : Int} (h : areaFault l area = 0) : 0 ≤ volW l ∧ volW l ≤ 1000000000000000000 := by
  obtain ⟨h1, h2, _, _, h3⟩ := areaFault_zero h
  rw [volW_eq l h2 h1]
  exact ⟨(vol_bd l h2).1, h3⟩

theorem Own.cell_bead {w : World} {lo : Nat} {e : TypeId} {g c : Nat} {l : List Bead} (h : Own w lo e (some ⟨g, 0, none⟩) c l) {i : Nat} (hi : i < l.length) :
    w.cell? ⟨g, i * 3, none⟩ = some (.int .i64 l[i].long) ∧ w.cell? ⟨g, i * 3 + 1, none⟩ = some (.int .i64 l[i].wide) ∧ w.cell? ⟨g, i * 3 + 2, none⟩ = some (.int .i64 l[i].high) := by
  obtain ⟨g', o, c1, hA, _, _, rfl, hc⟩ := h.sl.at_ (by decide) hi
  injection hA with hA
  injection hA with e1 e2
  subst e1
  subst e2
  have c0 := hc 0 _ rfl
  have c1 := hc 1 _ rfl
  have c2 := hc 2 _ rfl
  rw [Nat.zero_add, show Enc.sz Bead = 3 from rfl] at c0 c1 c2
  exact ⟨c0, c1, c2⟩

theorem fed_of_area {l : List Bead} {area : Int} (h : areaFault l area = 0) : fedFault l = 0 := by
  obtain ⟨h1, h2, _, _, h3⟩ := areaFault_zero h
  have : checkBeads l = 0 := checkBeads_zero.2 ⟨h1, h2⟩
  unfold fedFault
  rw [if_neg (by simp [this]), if_neg (by rw [volW_eq l h2 h1]; omega)]
theorem eqB_refl {α : Type} [DecidableEq α] (l : List α) : eqB l l = true := by simp [eqB]
theorem volumeOf_ok {l : List Bead} (h : fedFault l = 0) : volumeOf l = volW l := by unfold volumeOf; rw [if_neg (by simp [h])]
theorem volumeOf_bad {l : List Bead} (h : fedFault l ≠ 0) : volumeOf l = 0 := by unfold volumeOf; rw [if_pos h]
theorem needOf_bad {l : List Bead} {area : Int} (h : areaFault l area ≠ 0) : needOf l area = ⟨0, 0⟩ := by unfold needOf; rw [if_pos h]
theorem positions_bad {l : List Bead} {area : Int} (h : areaFault l area ≠ 0) : positions l area = [] := by unfold positions; rw [if_pos h]
theorem amounts_bad {l : List Bead} {area : Int} (h : areaFault l area ≠ 0) : amounts l area = [] := by unfold amounts; rw [positions_bad h]; rfl

def memB (l : List Int) (x : Int) : Bool := decide (x ∈ l)
/-- strictly upwards -/
def Up (l : List Int) : Prop := ∀ i j (hi : i < l.length) (hj : j < l.length), i < j → l[i] < l[j]

/-! ## retractions -/
def prevAt (l : List Int) (k : Nat) : Option Int := if k = 0 then none else l[k - 1]?
def leO : Option Int → Int → Bool
  | none, _ => false
  | some q, k => decide (k ≤ q)
def scanP (nb : Int) : Option Int → List Int → Int
  | _, [] => 0
  | p, k :: r => if outB k 0 (nb - 1) then 1 else if leO p k then 7 else scanP nb (some k) r
theorem scan_drop {nb : Int} {l : List Int} {k : Nat} (hk : k < l.length) : scanP nb (prevAt l k) (l.drop k) = if outB l[k] 0 (nb - 1) then 1 else if leO (prevAt l k) l[k] then 7 else scanP nb (prevAt l (k + 1)) (l.drop (k + 1)) := by
  rw [List.drop_eq_getElem_cons hk]
  simp only [scanP]
  have : prevAt l (k + 1) = some l[k] := by unfold prevAt; simp [hk]
  rw [this]
theorem scan_up {nb : Int} : ∀ {l : List Int} {p : Option Int}, scanP nb p l = 0 → (∀ q (h : 0 < l.length), p = some q → q < l[0]) ∧ Up l
  | [], p, _ => ⟨fun q h => by simp at h, fun i j hi => by simp at hi⟩
  | k :: r, p, h => by
    unfold scanP at h
    split at h
    · cases h
    · split at h
      · cases h
      · rename_i h2
        obtain ⟨h3, h4⟩ := scan_up h
        refine ⟨fun q _ hq => ?_, fun i j hi hj hij => ?_⟩
        · subst hq
          simp [leO] at h2
          simpa using h2
        · rcases i with _ | i
          · obtain ⟨j, rfl⟩ : ∃ j', j = j' + 1 := ⟨j - 1, by omega⟩
            have hr : 0 < r.length := by simp at hj; omega
            have h5 := h3 k hr rfl
            rcases Nat.eq_zero_or_pos j with hj0 | hj0
            · subst hj0; simpa using h5
            · have h6 := h4 0 j hr (by simpa using hj) hj0
              simp; omega
          · obtain ⟨j, rfl⟩ : ∃ j', j = j' + 1 := ⟨j - 1, by omega⟩
            simpa using h4 i j (by simpa using hi) (by simpa using hj) (by omega)
def backF (nb back : Int) (at_ : List Int) : Int := if outB back 1 5000 then 1 else if 5000 < at_.length then 2 else scanP nb none at_
theorem backF_zero {nb back : Int} {at_ : List Int} (h : backF nb back at_ = 0) : (1 ≤ back ∧ back ≤ 5000) ∧ at_.length ≤ 5000 ∧ Up at_ := by
  unfold backF at h
  split at h
  · cases h
  · rename_i h1
    split at h
    · cases h
    · exact ⟨outB_false (by simpa using h1), by omega, (scan_up h).2⟩
def retrOne (am at_ : List Int) (back : Int) (i : Nat) : List Int := (if memB at_ i then [-back, back] else []) ++ [am.getD i 0]
def retrTo (am at_ : List Int) (back : Int) (k : Nat) : List Int := ((List.range k).map (retrOne am at_ back)).flatten
theorem retrTo_succ (am at_ : List Int) (back : Int) (k : Nat) : retrTo am at_ back (k + 1) = retrTo am at_ back k ++ retrOne am at_ back k := by
  unfold retrTo; rw [List.range_succ, List.map_append, List.flatten_append]; simp
theorem retrTo_len (am at_ : List Int) (back : Int) (k : Nat) : (retrTo am at_ back k).length ≤ 3 * k := by
  induction k with
  | zero => simp [retrTo]
  | succ k ih =>
    rw [retrTo_succ, List.length_append]
    have : (retrOne am at_ back k).length ≤ 3 := by unfold retrOne; split <;> simp
    omega
theorem retrOne_yes {am at_ : List Int} {back : Int} {k : Nat} (hk : k < am.length) (h : memB at_ k = true) : retrOne am at_ back k = [-back, back] ++ [am[k]] := by
  unfold retrOne; rw [if_pos h]; simp [List.getD, hk]
theorem retrOne_no {am at_ : List Int} {back : Int} {k : Nat} (hk : k < am.length) (h : memB at_ k = false) : retrOne am at_ back k = [am[k]] := by
  unfold retrOne; rw [if_neg (by simp [h])]; simp [List.getD, hk]
def retrFault (l : List Bead) (area back : Int) (at_ : List Int) : Int := orS (areaFault l area) (backF l.length back at_)
def retracted (l : List Bead) (area back : Int) (at_ : List Int) : List Int := if retrFault l area back at_ ≠ 0 then [] else retrTo (amounts l area) at_ back (amounts l area).length
theorem amounts_len {l : List Bead} {area : Int} (h : areaFault l area = 0) : (amounts l area).length = l.length := by
  unfold amounts; rw [diffFrom_len]; unfold positions; rw [if_neg (by simp [h]), posOf_len]

/-! ## speeds, times, weights -/
def fastFault (l : List Bead) (fl : Int) : Int := orS (checkBeads l) (spanF fl 1 1000000000000)
def fastTo (l : List Bead) (fl : Int) : List Int := l.map fun x => fl / (x.wide * x.high)
def fastest (l : List Bead) (fl : Int) : List Int := if fastFault l fl ≠ 0 then [] else fastTo l fl
theorem fastTo_snoc (l : List Bead) (x : Bead) (fl : Int) : fastTo (l ++ [x]) fl = fastTo l fl ++ [fl / (x.wide * x.high)] := by simp [fastTo]
theorem wh_bd {x : Bead} (h : okBead x = true) : 1 ≤ x.wide * x.high ∧ x.wide * x.high ≤ 25000000 := by
  obtain ⟨_, ⟨h3, h4⟩, ⟨h5, h6⟩⟩ := okBead_bd h
  have a1 : 1 * 1 ≤ x.wide * x.high := Int.mul_le_mul h3 h5 (by omega) (by omega)
  have a2 : x.wide * x.high ≤ 5000 * 5000 := Int.mul_le_mul h4 h6 (by omega) (by omega)
  omega
def okTime (t : Int) : Bool := !outB t 0 86400000
def timesF (times : List Int) (least : Int) : Int := if 5000 < times.length then 2 else if (times ++ [least]).all okTime then 0 else 1
theorem timesF_zero {times : List Int} {least : Int} (h : timesF times least = 0) : times.length ≤ 5000 ∧ times.all okTime = true ∧ 0 ≤ least ∧ least ≤ 86400000 := by
  unfold timesF at h
  split at h
  · cases h
  · split at h
    · rename_i h1 h2
      rw [List.all_append, Bool.and_eq_true] at h2
      have := h2.2
      simp [okTime] at this
      have := outB_false this
      exact ⟨by omega, h2.1, this.1, this.2⟩
    · cases h
def slowTo (times : List Int) (least : Int) : List Int := times.map fun t => max t least
def growTo (times : List Int) (least : Int) : Int := times.foldl (fun m t => m + (max t least - t)) 0
theorem slowTo_snoc (l : List Int) (t least : Int) : slowTo (l ++ [t]) least = slowTo l least ++ [max t least] := by simp [slowTo]
theorem growTo_snoc (l : List Int) (t least : Int) : growTo (l ++ [t]) least = growTo l least + (max t least - t) := by simp [growTo, List.foldl_append]
theorem growTo_bd (l : List Int) (least : Int) (h : l.all okTime = true) (h0 : 0 ≤ least ∧ least ≤ 86400000) : 0 ≤ growTo l least ∧ growTo l least ≤ l.length * 86400000 := by
  suffices ∀ m : Int, 0 ≤ m → m ≤ l.foldl (fun m t => m + (max t least - t)) m ∧ l.foldl (fun m t => m + (max t least - t)) m ≤ m + l.length * 86400000 by
    have := this 0 (by omega); unfold growTo; omega
  induction l with
  | nil => intro m hm; simp
  | cons t l ih =>
    simp only [List.all_cons, Bool.and_eq_true] at h
    intro m hm
    have ht := h.1
    simp [okTime] at ht
    have hb := outB_false ht
    have := ih h.2 (m + (max t least - t)) (by omega)
    simp only [List.foldl_cons, List.length_cons]
    omega
def slowed (times : List Int) (least : Int) : List Int := if timesF times least ≠ 0 then [] else slowTo times least
def grown (times : List Int) (least : Int) : Int := if timesF times least ≠ 0 then 0 else growTo times least
def weightF (l : List Bead) (d : Int) : Int := orS (fedFault l) (orS (spanF d 1 1000000) (if 1000000000000 < volW l then 12 else 0))
def weight (l : List Bead) (d : Int) : Frac := if weightF l d ≠ 0 then ⟨0, 0⟩ else lowest (volW l * d) 1000000000000
theorem orS_eq_zero {a b : Int} (h : orS a b = 0) : a = 0 ∧ b = 0 := by
  unfold orS at h
  split at h
  · rename_i h1; exact absurd h h1
  · rename_i h1; exact ⟨by simpa using h1, h⟩
theorem spanF_zero {n a b : Int} (h : spanF n a b = 0) : a ≤ n ∧ n ≤ b := by
  unfold spanF at h
  split at h
  · cases h
  · rename_i h1; exact outB_false (by simpa using h1)
theorem fed_zero {l : List Bead} (h : fedFault l = 0) : l.length ≤ 5000 ∧ l.all okBead = true ∧ 0 ≤ volW l ∧ volW l ≤ 1000000000000000000 := by
  unfold fedFault at h
  split at h
  · rename_i h1; exact absurd h h1
  · rename_i h1
    obtain ⟨h2, h3⟩ := checkBeads_zero.1 (by simpa using h1)
    split at h
    · cases h
    · exact ⟨h2, h3, by rw [volW_eq l h3 h2]; exact (vol_bd l h3).1, by omega⟩
theorem weightF_zero {l : List Bead} {d : Int} (h : weightF l d = 0) : fedFault l = 0 ∧ 0 ≤ volW l ∧ volW l ≤ 1000000000000 ∧ 1 ≤ d ∧ d ≤ 1000000 := by
  obtain ⟨h1, h2⟩ := orS_eq_zero h
  obtain ⟨h3, h4⟩ := orS_eq_zero h2
  obtain ⟨_, _, h5, _⟩ := fed_zero h1
  have h6 := spanF_zero h3
  split at h4
  · cases h4
  · exact ⟨h1, h5, by omega, h6.1, h6.2⟩
theorem mul_bd {a b A B : Int} (h0 : 0 ≤ a) (h1 : a ≤ A) (h2 : 0 ≤ b) (h3 : b ≤ B) : 0 ≤ a * b ∧ a * b ≤ A * B := ⟨Int.mul_nonneg h0 h2, Int.mul_le_mul h1 h3 h2 (by omega)⟩
end Go.Bl
