/- Contracts of functions that this seat's laws reach, each: what one call returns and what it leaves in memory; no condition beyond each theorem's own hypotheses. -/
import Derived.Test.YtfleljmmfkkkpaaGreatDoorZqNumData
import Derived.Lib.SplitLaws
import Derived.Lib.SlTrimSet
import Derived.Lib.Strings
import Derived.Lib.Join
set_option linter.unusedVariables false
set_option linter.unusedSimpArgs false
namespace Go.Bl
open Go

theorem dropWhile_empty {α : Type} (p : α → Bool) (l : List α) : (l.dropWhile p).isEmpty = l.all p := by
  induction l with
  | nil => rfl
  | cons x l ih => by_cases h : p x = true <;> simp_all [List.dropWhile_cons]

theorem trimS_empty (l cs : List UInt8) : (Lib.trimS l cs).isEmpty = l.all (cs.contains ·) := by
  unfold Lib.trimS Lib.trimLeftS Lib.trimRightS
  rw [dropWhile_empty, List.all_reverse]
  have h : ∀ (m : List UInt8), (m.dropWhile (cs.contains ·)).all (cs.contains ·) = m.all (cs.contains ·) := by
    intro m
    induction m with
    | nil => rfl
    | cons x m ih => by_cases h : cs.contains x = true <;> simp_all [List.dropWhile_cons]
  rw [h, List.all_reverse]

/-- a text cut at each byte of a kind -/
def pieces (c : UInt8) : List UInt8 → List (List UInt8)
  | [] => [[]]
  | b :: l => if b = c then [] :: pieces c l else match pieces c l with
    | [] => [[b]]
    | x :: r => (b :: x) :: r

theorem pieces_ne (c : UInt8) (l : List UInt8) : pieces c l ≠ [] := by
  cases l with
  | nil => simp [pieces]
  | cons b l =>
    unfold pieces
    split
    · simp
    · split <;> simp

theorem pieces_none {c : UInt8} : ∀ {l : List UInt8}, c ∉ l → pieces c l = [l]
  | [], _ => rfl
  | b :: l, h => by
    simp only [List.mem_cons, not_or] at h
    unfold pieces
    rw [if_neg (Ne.symm h.1), pieces_none h.2]

theorem pieces_hit {c : UInt8} : ∀ {x : List UInt8} (r : List UInt8), c ∉ x → pieces c (x ++ c :: r) = x :: pieces c r
  | [], r, _ => by simp [pieces]
  | b :: x, r, h => by
    simp only [List.mem_cons, not_or] at h
    rw [List.cons_append, pieces, if_neg (Ne.symm h.1), pieces_hit r h.2]

theorem first_at {c : UInt8} : ∀ {l : List UInt8}, c ∈ l → ∃ x r, l = x ++ c :: r ∧ c ∉ x
  | [], h => by simp at h
  | b :: l, h => by
    by_cases e : b = c
    · subst e; exact ⟨[], l, rfl, by simp⟩
    · have h2 : c ∈ l := by simpa [Ne.symm e] using h
      obtain ⟨x, r, rfl, hx⟩ := first_at h2
      exact ⟨b :: x, r, rfl, by simp [hx, Ne.symm e]⟩

theorem index_none' {c : UInt8} : ∀ {l : List UInt8}, c ∉ l → Lib.index l [c] = -1
  | [], _ => by simp [Lib.index]
  | b :: l, h => by
    simp only [List.mem_cons, not_or] at h
    have hp : ([c] : List UInt8).isPrefixOf (b :: l) = false := by simp [List.isPrefixOf, h.1]
    rw [Lib.index, hp, index_none' h.2]; simp

theorem index_at {c : UInt8} : ∀ {x : List UInt8} (r : List UInt8), c ∉ x → Lib.index (x ++ c :: r) [c] = x.length
  | [], r, _ => by simp [Lib.index, List.isPrefixOf]
  | b :: x, r, h => by
    simp only [List.mem_cons, not_or] at h
    have hp : ([c] : List UInt8).isPrefixOf (b :: (x ++ c :: r)) = false := by simp [List.isPrefixOf, h.1]
    rw [List.cons_append, Lib.index, hp, index_at r h.2]
    have : ((x.length : Int) == -1) = false := by rw [beq_eq_false_iff_ne]; omega
    rw [this]; simp

theorem splitK_pieces (c : UInt8) : ∀ (n : Nat) (s : List UInt8), s.length ≤ n → Lib.splitK [c] 0 (Lib.count s [c]) s = pieces c s := by
  intro n
  induction n with
  | zero =>
    intro s hs
    have : s = [] := List.eq_nil_of_length_eq_zero (by omega)
    subst this
    rw [Lib.count_one]; rfl
  | succ n ih =>
    intro s hs
    by_cases h : c ∈ s
    · obtain ⟨x, r, rfl, hx⟩ := first_at h
      have hr : r.length ≤ n := by simp at hs; omega
      have hc : Lib.count (x ++ c :: r) [c] = Lib.count r [c] + 1 := by
        rw [Lib.count_one, Lib.count_one, List.count_append, List.count_cons_self, List.count_eq_zero.2 hx]; omega
      rw [hc, Lib.splitK, index_at r hx, pieces_hit r hx]
      have : ((x.length : Int) == -1) = false := by rw [beq_eq_false_iff_ne]; omega
      rw [this]
      have e2 : (x ++ c :: r).drop ((x.length : Int).toNat + [c].length) = r := by simp
      rw [e2, ih r hr]
      simp
    · rw [Lib.count_one, List.count_eq_zero.2 h, pieces_none h]; rfl

def mkB (l : List UInt8) : ByteArray := ⟨l.toArray⟩

theorem mkB_data (l : List UInt8) : (mkB l).data.toList = l := rfl

theorem data_mkB (s : ByteArray) : mkB s.data.toList = s := rfl

def piecesB (c : UInt8) (s : ByteArray) : List ByteArray := (pieces c s.data.toList).map mkB

theorem splitB_pieces (c : UInt8) (s : ByteArray) : Lib.splitB ⟨#[c]⟩ 0 (Lib.countB s ⟨#[c]⟩) s = piecesB c s := by
  have h := Lib.splitB_data ⟨#[c]⟩ 0 (Lib.countB s ⟨#[c]⟩) s
  have h2 : Lib.splitK (⟨#[c]⟩ : ByteArray).data.toList 0 (Lib.countB s ⟨#[c]⟩) s.data.toList = pieces c s.data.toList := splitK_pieces c _ s.data.toList (Nat.le_refl _)
  rw [h2] at h
  unfold piecesB
  rw [← h, List.map_map]
  have : (mkB ∘ fun (x : ByteArray) => x.data.toList) = id := by funext x; exact data_mkB x
  rw [this, List.map_id]

/-- the lines of a text; is the last one ended? -/
def linesK (s : List UInt8) : List (List UInt8) × Bool := if s = [] then ([], true) else if s.getLast? = some 10 then (pieces 10 s.dropLast, true) else (pieces 10 s, false)

theorem linesK_nil : linesK [] = ([], true) := rfl

theorem linesK_none {s : List UInt8} (h0 : s ≠ []) (h : 10 ∉ s) : linesK s = ([s], false) := by
  unfold linesK
  rw [if_neg h0, if_neg, pieces_none h]
  intro e
  exact h (List.mem_of_getLast? e)

theorem linesK_hit {x : List UInt8} (r : List UInt8) (h : 10 ∉ x) : linesK (x ++ 10 :: r) = (x :: (linesK r).1, (linesK r).2) := by
  unfold linesK
  rw [if_neg (by simp)]
  cases hr : r with
  | nil =>
    have e1 : (x ++ [(10 : UInt8)]).getLast? = some 10 := by simp
    have e2 : (x ++ [(10 : UInt8)]).dropLast = x := by simp
    rw [if_pos e1, e2, pieces_none h]; rfl
  | cons b t =>
    have e1 : (x ++ 10 :: (b :: t)).getLast? = (b :: t).getLast? := by
      rw [List.getLast?_append, List.getLast?_cons_cons]
      cases hx : (b :: t).getLast? with
      | none => simp at hx
      | some y => rfl
    have e2 : (x ++ 10 :: (b :: t)).dropLast = x ++ 10 :: (b :: t).dropLast := by
      rw [List.dropLast_append_of_ne_nil (by simp)]; rfl
    rw [e1, e2, if_neg (show ¬ (b :: t) = [] by simp)]
    split
    · rw [pieces_hit _ h]
    · rw [pieces_hit _ h]
/-- lines that are ended -/
def ended (l : List (List UInt8)) : List UInt8 := (l.map (· ++ [10])).flatten

theorem ended_cons (x : List UInt8) (l : List (List UInt8)) : ended (x :: l) = x ++ 10 :: ended l := by simp [ended]

theorem ended_append (l m : List (List UInt8)) : ended (l ++ m) = ended l ++ ended m := by simp [ended]

theorem linesK_ended : ∀ {l : List (List UInt8)}, (∀ x ∈ l, 10 ∉ x) → linesK (ended l) = (l, true)
  | [], _ => rfl
  | x :: l, h => by
    rw [ended_cons, linesK_hit _ (h x (by simp)), linesK_ended (fun y hy => h y (List.mem_cons_of_mem _ hy))]

theorem linesK_back (n : Nat) : ∀ (s : List UInt8), s.length ≤ n → (linesK s).2 = true → ended (linesK s).1 = s ∧ ∀ x ∈ (linesK s).1, 10 ∉ x := by
  induction n with
  | zero =>
    intro s hs _
    have : s = [] := List.eq_nil_of_length_eq_zero (by omega)
    subst this
    exact ⟨rfl, by simp [linesK_nil]⟩
  | succ n ih =>
    intro s hs he
    by_cases h0 : s = []
    · subst h0
      exact ⟨rfl, by simp [linesK_nil]⟩
    · by_cases h : (10 : UInt8) ∈ s
      · obtain ⟨x, r, rfl, hx⟩ := first_at h
        rw [linesK_hit r hx] at he ⊢
        obtain ⟨h1, h2⟩ := ih r (by simp at hs; omega) he
        refine ⟨by rw [ended_cons, h1], fun y hy => ?_⟩
        rcases List.mem_cons.1 hy with rfl | hy
        · exact hx
        · exact h2 y hy
      · rw [linesK_none h0 h] at he
        cases he

/-- lines taken one by one: the state behind them, and the number of the first one that does not fit -/
def readL {σ : Type} (step : σ → List UInt8 → Option σ) : σ → Nat → List (List UInt8) → Bool → σ × Option Nat
  | st, _, [], _ => (st, none)
  | st, i, x :: r, e => if r.isEmpty && !e then (st, some i) else match step st x with
    | none => (st, some i)
    | some st' => readL step st' (i + 1) r e

theorem readL_nil {σ : Type} (step : σ → List UInt8 → Option σ) (st : σ) (i : Nat) (e : Bool) : readL step st i [] e = (st, none) := rfl

theorem readL_open {σ : Type} (step : σ → List UInt8 → Option σ) (st : σ) (i : Nat) (x : List UInt8) : readL step st i [x] false = (st, some i) := rfl

theorem readL_bad {σ : Type} {step : σ → List UInt8 → Option σ} {st : σ} (i : Nat) {x : List UInt8} (r : List (List UInt8)) (e : Bool) (h : step st x = none) : readL step st i (x :: r) e = (st, some i) := by
  unfold readL
  split
  · rfl
  · rw [h]

theorem readL_good {σ : Type} {step : σ → List UInt8 → Option σ} {st st' : σ} (i : Nat) {x : List UInt8} (r : List (List UInt8)) (e : Bool) (h : step st x = some st') (hr : r ≠ [] ∨ e = true) : readL step st i (x :: r) e = readL step st' (i + 1) r e := by
  rw [readL, if_neg, h]
  simp only [Bool.and_eq_true, Bool.not_eq_true', not_and, Bool.not_eq_false]
  intro h1
  rcases hr with h2 | h2
  · exact absurd (by simpa using h1) h2
  · exact h2

theorem readL_all {σ : Type} {step : σ → List UInt8 → Option σ} {st st' : σ} {i : Nat} {l : List (List UInt8)} {e : Bool} (h : readL step st i l e = (st', none)) : l = [] ∨ e = true := by
  induction l generalizing st i with
  | nil => left; rfl
  | cons x r ih =>
    right
    unfold readL at h
    split at h
    · cases h
    · rename_i hn
      split at h
      · cases h
      · rcases ih h with rfl | he
        · simpa using hn
        · exact he

/-- all words are numbers -/
def numsK : List (List UInt8) → Option (List Int)
  | [] => some []
  | x :: l => match numK x, numsK l with
    | some n, some r => some (n :: r)
    | _, _ => none

theorem numsK_snoc (l : List (List UInt8)) (x : List UInt8) : numsK (l ++ [x]) = match numsK l, numK x with
    | some r, some n => some (r ++ [n])
    | _, _ => none := by
  induction l with
  | nil => simp only [List.nil_append, numsK]; cases numK x <;> rfl
  | cons y l ih =>
    simp only [List.cons_append, numsK, ih]
    cases numK y <;> cases numsK l <;> cases numK x <;> rfl

theorem numsK_len {l : List (List UInt8)} {r : List Int} (h : numsK l = some r) : r.length = l.length := by
  induction l generalizing r with
  | nil => simp only [numsK, Option.some.injEq] at h; subst h; rfl
  | cons x l ih =>
    simp only [numsK] at h
    cases hx : numK x with
    | none => rw [hx] at h; cases h
    | some n =>
      cases hl : numsK l with
      | none => rw [hx, hl] at h; cases h
      | some t =>
        rw [hx, hl] at h
        injection h with h
        subst h
        simp [ih hl]

theorem numsK_two {l : List (List UInt8)} {a b : Int} (h : numsK l = some [a, b]) : ∃ x y, l = [x, y] ∧ numK x = some a ∧ numK y = some b := by
  have hl := numsK_len h
  match l, hl with
  | [x, y], _ =>
    simp only [numsK] at h
    cases hx : numK x with
    | none => rw [hx] at h; cases h
    | some n =>
      cases hy : numK y with
      | none => rw [hx, hy] at h; cases h
      | some m =>
        rw [hx, hy] at h
        simp only [Option.some.injEq, List.cons.injEq, and_true] at h
        obtain ⟨rfl, rfl⟩ := h
        exact ⟨x, y, rfl, hx, hy⟩

theorem itoa_bytes (n : Int) (b : UInt8) (h : b ∈ Lib.itoa n) : b = 45 ∨ isDig b = true := by
  by_cases hn : n < 0
  · obtain ⟨u, rfl⟩ : ∃ u : Nat, n = -(u : Int) := ⟨n.natAbs, by omega⟩
    rw [Lib.itoa_neg u (by omega)] at h
    rcases List.mem_cons.1 h with rfl | h
    · left; rfl
    · right; exact List.all_eq_true.1 (decDigits_digs u) b h
  · obtain ⟨u, rfl⟩ : ∃ u : Nat, n = u := ⟨n.toNat, by omega⟩
    rw [Lib.itoa_nonneg] at h
    right; exact List.all_eq_true.1 (decDigits_digs u) b h

theorem itoa_no (n : Int) {b : UInt8} (hb : b = 10 ∨ b = 32) : b ∉ Lib.itoa n := fun h => by
  rcases itoa_bytes n b h with rfl | h1
  · rcases hb with e | e <;> cases e
  · have := isDig_bd h1
    rcases hb with rfl | rfl <;> simp at this

/-- words with blanks between -/
def joined : List (List UInt8) → List UInt8
  | [] => []
  | [x] => x
  | x :: l => x ++ 32 :: joined l

theorem joined_lib (l : List (List UInt8)) : Lib.join l [32] = joined l := by
  unfold Lib.join
  induction l with
  | nil => rfl
  | cons x l ih =>
    cases l with
    | nil => simp [joined, List.intercalate]
    | cons y r =>
      rw [joined, ← ih]
      simp [List.intercalate]
      simp

theorem pieces_joined : ∀ {l : List (List UInt8)}, l ≠ [] → (∀ x ∈ l, (32 : UInt8) ∉ x) → pieces 32 (joined l) = l
  | [], h, _ => absurd rfl h
  | [x], _, h => pieces_none (h x (by simp))
  | x :: y :: r, _, h => by
    rw [joined, pieces_hit _ (h x (by simp)), pieces_joined (by simp) (fun z hz => h z (List.mem_cons_of_mem _ hz))]
    simp

theorem joined_pieces (n : Nat) : ∀ (s : List UInt8), s.length ≤ n → joined (pieces 32 s) = s := by
  induction n with
  | zero =>
    intro s hs
    have : s = [] := List.eq_nil_of_length_eq_zero (by omega)
    subst this
    rfl
  | succ n ih =>
    intro s hs
    by_cases h : (32 : UInt8) ∈ s
    · obtain ⟨x, r, rfl, hx⟩ := first_at h
      rw [pieces_hit r hx]
      have := ih r (by simp at hs; omega)
      cases hp : pieces 32 r with
      | nil => exact absurd hp (pieces_ne _ _)
      | cons y t => rw [joined, ← hp, this]; simp
    · rw [pieces_none h]; rfl

end Go.Bl
