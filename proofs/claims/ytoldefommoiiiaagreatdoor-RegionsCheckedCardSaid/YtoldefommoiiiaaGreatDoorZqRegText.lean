/- Contracts of functions that this seat's laws reach, each: what one call returns and what it leaves in memory; no condition beyond each theorem's own hypotheses. -/
import Derived.Test.YtoldefommoiiiaaGreatDoorZqPathText
import Derived.Test.YtoldefommoiiiaaGreatDoorZqRegH
import Derived.Lib.ItoaLen
set_option linter.unusedVariables false
set_option linter.unusedSimpArgs false
namespace Go.Proofs.YtoldefommoiiiaaGreatDoor
open Go Go.RowKit Go.Bl

def ringT : List UInt8 := [114, 105, 110, 103]

def ringLines (r : List Pt) : List (List UInt8) := ringT :: r.map ptLine

def regLines (l : List (List Pt)) : List (List UInt8) := (l.map ringLines).flatten

def regText (l : List (List Pt)) : List UInt8 := ended (regLines l)

def addR (l : List (List Pt)) (q : Pt) : List (List Pt) := match l.getLast? with
  | none => l
  | some p => l.dropLast ++ [p ++ [q]]

def stepR (st : List (List Pt)) (x : List UInt8) : Option (List (List Pt)) := if x = ringT then some (st ++ [[]]) else match numsK (pieces 32 x) with
  | some [a, b] => if st = [] then none else some (addR st ⟨a, b⟩)
  | _ => none

def finR (st : List (List Pt)) : List (List Pt) × Int × Int := if regF st = 0 then (st, 0, 0) else ([], 0, regF st)

def endR (r : List (List Pt) × Option Nat) : List (List Pt) × Int × Int := match r with
  | (_, some i) => ([], (i : Int), 9)
  | (st, none) => finR st

def readR (s : List UInt8) : List (List Pt) × Int × Int := if 200000 < s.length then (([], 0, 2) : List (List Pt) × Int × Int) else endR (readL stepR [] 0 (linesK s).1 (linesK s).2)

theorem regLines_snoc (l : List (List Pt)) (p : List Pt) : regLines (l ++ [p]) = regLines l ++ ringLines p := by simp [regLines]

theorem regLines_add {l : List (List Pt)} (h : l ≠ []) (q : Pt) : regLines (addR l q) = regLines l ++ [ptLine q] := by
  obtain ⟨r, p, rfl⟩ : ∃ r p, l = r ++ [p] := ⟨l.dropLast, l.getLast h, (List.dropLast_concat_getLast h).symm⟩
  unfold addR
  rw [List.getLast?_concat]
  simp only [List.dropLast_concat]
  rw [regLines_snoc, regLines_snoc]
  simp [ringLines]

theorem regLines_no (l : List (List Pt)) : ∀ x ∈ regLines l, (10 : UInt8) ∉ x := by
  intro x hx
  unfold regLines at hx
  obtain ⟨y, hy, hxy⟩ := List.mem_flatten.1 hx
  obtain ⟨p, -, rfl⟩ := List.mem_map.1 hy
  rcases List.mem_cons.1 hxy with rfl | h
  · decide
  · obtain ⟨q, -, rfl⟩ := List.mem_map.1 h
    exact ptLine_no q

theorem ptLine_ring (q : Pt) : ptLine q ≠ ringT := fun e => by
  have : (32 : UInt8) ∈ ptLine q := by simp [ptLine, joined]
  rw [e] at this
  revert this
  decide

theorem stepR_pt {st : List (List Pt)} (h : st ≠ []) {q : Pt} (hb : bdP q) : stepR st (ptLine q) = some (addR st q) := by
  unfold bdP at hb
  unfold stepR
  rw [if_neg (ptLine_ring q), ptLine_pieces]
  simp only [numsK]
  rw [num_itoa (by omega), num_itoa (by omega)]
  simp only [if_neg h]

theorem stepR_head (st : List (List Pt)) : stepR st ringT = some (st ++ [[]]) := by
  unfold stepR
  rw [if_pos rfl]

theorem readR_pts {st : List (List Pt)} {i : Nat} {p m : List Pt} (hq : ∀ q ∈ m, bdP q) (r : List (List UInt8)) : ∃ j, readL stepR (st ++ [p]) i (m.map ptLine ++ r) true = readL stepR (st ++ [p ++ m]) j r true := by
  induction m generalizing p i with
  | nil => exact ⟨i, by simp⟩
  | cons q m ih =>
    have h1 := stepR_pt (st := st ++ [p]) (by simp) (hq q (by simp))
    obtain ⟨j, hj⟩ := ih (p := p ++ [q]) (i := i + 1) (fun x hx => hq x (List.mem_cons_of_mem _ hx))
    refine ⟨j, ?_⟩
    rw [List.map_cons, List.cons_append, readL_good i _ _ h1 (.inr rfl)]
    unfold addR
    rw [List.getLast?_concat]
    simp only [List.dropLast_concat]
    rw [hj]
    simp

theorem readR_lines {l : List (List Pt)} (hp : ∀ p ∈ l, ∀ q ∈ p, bdP q) (st : List (List Pt)) (i : Nat) : readL stepR st i (regLines l) true = (st ++ l, none) := by
  induction l generalizing st i with
  | nil => simp [regLines, readL_nil]
  | cons p l ih =>
    have e : regLines (p :: l) = ringT :: (p.map ptLine ++ regLines l) := by simp [regLines, ringLines]
    rw [e, readL_good i _ _ (stepR_head st) (.inr rfl)]
    obtain ⟨j, hj⟩ := readR_pts (st := st) (i := i + 1) (p := []) (hp p (by simp)) (regLines l)
    rw [hj, ih (fun x hx => hp x (List.mem_cons_of_mem _ hx))]
    simp

theorem reg_bd {l : List (List Pt)} (h : regF l = 0) : ∀ p ∈ l, ∀ q ∈ p, bdP q := by
  intro p hp q hq
  obtain ⟨i, hi, rfl⟩ := List.getElem_of_mem hp
  unfold regF at h
  split at h
  · cases h
  · split at h
    · rename_i h2; exact absurd h h2
    · rename_i h2
      have := scanN_zero' (by omega : scanN (fun k => ringF (l.getD k [])) l.length = 0) i hi
      simp only [List.getD_eq_getElem?_getD, List.getElem?_eq_getElem hi, Option.getD_some] at this
      exact (ringF_ok this).2.2.1 q hq

theorem reg_len {l : List (List Pt)} (h : regF l = 0) : ∀ p ∈ l, p.length ≤ 500 := by
  intro p hp
  obtain ⟨i, hi, rfl⟩ := List.getElem_of_mem hp
  unfold regF at h
  split at h
  · cases h
  · split at h
    · rename_i h2; exact absurd h h2
    · rename_i h2
      have := scanN_zero' (by omega : scanN (fun k => ringF (l.getD k [])) l.length = 0) i hi
      simp only [List.getD_eq_getElem?_getD, List.getElem?_eq_getElem hi, Option.getD_some] at this
      exact (ringF_ok this).2.1

theorem reg_size {l : List (List Pt)} (h : regF l = 0) : l.length ≤ 100 ∧ (flatK l l.length).length ≤ 2000 := by
  unfold regF at h
  split at h
  · cases h
  · omega

theorem readR_text {l : List (List Pt)} (hp : regF l = 0) (hl : (regText l).length ≤ 200000) : readR (regText l) = (l, 0, 0) := by
  unfold readR
  rw [if_neg (by omega)]
  unfold regText
  rw [linesK_ended (regLines_no l)]
  simp only
  rw [readR_lines (reg_bd hp) [] 0]
  simp [endR, finR, hp]

theorem stepR_lines {st st' : List (List Pt)} {x : List UInt8} (h : stepR st x = some st') : regLines st' = regLines st ++ [x] := by
  unfold stepR at h
  split at h
  · rename_i hx
    injection h with h
    subst h hx
    rw [regLines_snoc]; rfl
  · split at h
    · rename_i a b hn
      split at h
      · cases h
      · rename_i hst
        injection h with h
        subst h
        obtain ⟨y, z, e, h1, h2⟩ := numsK_two hn
        rw [regLines_add hst]
        congr 2
        have e2 := joined_pieces _ x (Nat.le_refl _)
        rw [e, ← (numK_iff.1 h1).1, ← (numK_iff.1 h2).1] at e2
        exact e2
    · cases h

theorem readR_all {st st' : List (List Pt)} {i : Nat} {l : List (List UInt8)} {e : Bool} (h : readL stepR st i l e = (st', none)) : regLines st' = regLines st ++ l := by
  induction l generalizing st i with
  | nil => simp only [readL_nil, Prod.mk.injEq, and_true] at h; subst h; simp
  | cons x r ih =>
    unfold readL at h
    split at h
    · cases h
    · split at h
      · cases h
      · rename_i st2 hs
        rw [ih h, stepR_lines hs]; simp

theorem readR_back {s : List UInt8} (h : (readR s).2.2 = 0) : regF (readR s).1 = 0 ∧ regText (readR s).1 = s ∧ s.length ≤ 200000 := by
  unfold readR at h ⊢
  split
  · rename_i hl
    rw [if_pos hl] at h
    cases h
  · rename_i hl
    rw [if_neg hl] at h
    rcases hr : readL stepR [] 0 (linesK s).1 (linesK s).2 with ⟨st, _ | i⟩
    · rw [hr] at h
      simp only [endR, finR] at h ⊢
      by_cases hf : regF st = 0
      · rw [if_pos hf]
        refine ⟨hf, ?_, by omega⟩
        have h1 := readR_all hr
        simp only [regLines, List.map_nil, List.flatten_nil, List.nil_append] at h1
        unfold regText regLines
        rw [h1]
        rcases readL_all hr with he | he
        · rw [he]
          by_cases hs : s = []
          · subst hs; rfl
          · exfalso
            unfold linesK at he
            rw [if_neg hs] at he
            split at he <;> exact pieces_ne _ _ he
        · exact (linesK_back _ s (Nat.le_refl _) he).1
      · rw [if_neg hf] at h
        exact absurd h hf
    · rw [hr] at h
      cases h

theorem addR_set {st : List (List Pt)} {n : Nat} (h : n + 1 = st.length) (q : Pt) : addR st q = st.set n (st[n] ++ [q]) := by
  obtain ⟨r, p, rfl⟩ : ∃ r p, st = r ++ [p] := ⟨st.dropLast, st.getLast (by intro e; rw [e] at h; simp at h), (List.dropLast_concat_getLast _).symm⟩
  have hn : n = r.length := by simp at h; omega
  subst hn
  unfold addR
  rw [List.getLast?_concat]
  simp

theorem stepR_eq (st : List (List Pt)) (x : List UInt8) : stepR st x = if x = ringT then some (st ++ [[]]) else match (match numsK (pieces 32 x) with | some [a, b] => some (⟨a, b⟩ : Pt) | _ => none) with
    | some q => if st = [] then none else some (addR st q)
    | none => none := by
  unfold stepR
  split
  · rfl
  · cases numsK (pieces 32 x) with
    | none => rfl
    | some r =>
      match r with
      | [] => rfl
      | [a] => rfl
      | [a, b] => rfl
      | a :: b :: c :: r => rfl

theorem regText_len {l : List (List Pt)} (h : regF l = 0) : (regText l).length ≤ 110000 := by
  obtain ⟨h1, h2⟩ := reg_size h
  have hb := reg_bd h
  rw [flatK_all (Nat.le_refl _)] at h2
  have key : ∀ l : List (List Pt), (∀ p ∈ l, ∀ q ∈ p, bdP q) → (regText l).length ≤ 51 * l.flatten.length + 5 * l.length := by
    intro l
    induction l with
    | nil => intro _; simp [regText, regLines, ended]
    | cons p l ih =>
      intro hb
      have e1 := ih (fun x hx => hb x (List.mem_cons_of_mem _ hx))
      have e2 : regText (p :: l) = ended (ringLines p) ++ regText l := by
        unfold regText; rw [← ended_append]; simp [regLines]
      have e3 : (ended (ringLines p)).length ≤ 51 * p.length + 5 := by
        unfold ringLines
        rw [ended_cons, List.length_append, List.length_cons]
        have : ∀ m : List Pt, (∀ q ∈ m, bdP q) → (ended (m.map ptLine)).length ≤ 51 * m.length := by
          intro m
          induction m with
          | nil => intro _; simp [ended]
          | cons q m ihm =>
            intro hm
            have f1 := ihm (fun x hx => hm x (List.mem_cons_of_mem _ hx))
            have f2 := hm q (by simp)
            unfold bdP at f2
            have a1 : (Lib.itoa q.x).length ≤ 21 := Lib.itoa_length_le q.x (by omega) (by omega)
            have a2 : (Lib.itoa q.y).length ≤ 21 := Lib.itoa_length_le q.y (by omega) (by omega)
            rw [List.map_cons, ended_cons, List.length_append, List.length_cons, List.length_cons]
            have : (ptLine q).length ≤ 43 := by simp only [ptLine, joined, List.length_append, List.length_cons]; omega
            omega
        have := this p (hb p (by simp))
        have e4 : ringT.length = 4 := rfl
        omega
      rw [e2, List.length_append, List.flatten_cons, List.length_append, List.length_cons]
      omega
  have := key l hb
  omega

end Go.Proofs.YtoldefommoiiiaaGreatDoor
