/- Contracts of functions that this seat's laws reach, each: what one call returns and what it leaves in memory; no condition beyond each theorem's own hypotheses. -/
import Derived.Test.YtfleljmmfkkkpaaGreatDoorZqTextData
import Derived.Test.YtfleljmmfkkkpaaGreatDoorZqPathI
import Derived.Test.YtfleljmmfkkkpaaGreatDoorZqPathF
set_option linter.unusedVariables false
set_option linter.unusedSimpArgs false
namespace Go.Proofs.YtfleljmmfkkkpaaGreatDoor
open Go Go.RowKit Go.Bl

def openT : List UInt8 := [111, 112, 101, 110]

def closedT : List UInt8 := [99, 108, 111, 115, 101, 100]

def ptLine (q : Pt) : List UInt8 := joined [Lib.itoa q.x, Lib.itoa q.y]

def headT (b : Bool) : List UInt8 := if b then closedT else openT

def pathLines (p : PathV) : List (List UInt8) := headT p.cl :: p.pts.map ptLine

def allLines (l : List PathV) : List (List UInt8) := (l.map pathLines).flatten

def pathText (l : List PathV) : List UInt8 := ended (allLines l)

def addPt (l : List PathV) (q : Pt) : List PathV := match l.getLast? with
  | none => l
  | some p => l.dropLast ++ [⟨p.pts ++ [q], p.cl⟩]

def stepP (st : List PathV) (x : List UInt8) : Option (List PathV) := if x = openT then some (st ++ [⟨[], false⟩]) else if x = closedT then some (st ++ [⟨[], true⟩]) else match numsK (pieces 32 x) with
  | some [a, b] => if st = [] then none else some (addPt st ⟨a, b⟩)
  | _ => none

def readP (s : List UInt8) : List PathV × Int × Int := if 200000 < s.length then ([], 0, 2) else match readL stepP [] 0 (linesK s).1 (linesK s).2 with
  | (_, some i) => ([], i, 9)
  | (st, none) => if pathsF st = 0 then (st, 0, 0) else ([], 0, pathsF st)

theorem allLines_snoc (l : List PathV) (p : PathV) : allLines (l ++ [p]) = allLines l ++ pathLines p := by simp [allLines]

theorem pathText_snoc (l : List PathV) (p : PathV) : pathText (l ++ [p]) = pathText l ++ ended (pathLines p) := by unfold pathText; rw [allLines_snoc, ended_append]

theorem allLines_add {l : List PathV} (h : l ≠ []) (q : Pt) : allLines (addPt l q) = allLines l ++ [ptLine q] := by
  obtain ⟨r, p, rfl⟩ : ∃ r p, l = r ++ [p] := ⟨l.dropLast, l.getLast h, (List.dropLast_concat_getLast h).symm⟩
  unfold addPt
  rw [List.getLast?_concat]
  simp only [List.dropLast_concat]
  rw [allLines_snoc, allLines_snoc]
  simp [pathLines]

theorem ptLine_no (q : Pt) : (10 : UInt8) ∉ ptLine q := by
  simp only [ptLine, joined, List.mem_append, List.mem_cons, not_or]
  exact ⟨itoa_no _ (.inl rfl), by decide, itoa_no _ (.inl rfl)⟩

theorem headT_no (b : Bool) : (10 : UInt8) ∉ headT b := by cases b <;> decide

theorem allLines_no (l : List PathV) : ∀ x ∈ allLines l, (10 : UInt8) ∉ x := by
  intro x hx
  unfold allLines at hx
  obtain ⟨y, hy, hxy⟩ := List.mem_flatten.1 hx
  obtain ⟨p, -, rfl⟩ := List.mem_map.1 hy
  rcases List.mem_cons.1 hxy with rfl | h
  · exact headT_no _
  · obtain ⟨q, -, rfl⟩ := List.mem_map.1 h
    exact ptLine_no q

theorem ptLine_pieces (q : Pt) : pieces 32 (ptLine q) = [Lib.itoa q.x, Lib.itoa q.y] :=
  pieces_joined (by simp) (fun x hx => by
    simp only [List.mem_cons, List.not_mem_nil, or_false] at hx
    rcases hx with rfl | rfl <;> exact itoa_no _ (.inr rfl))

theorem ptLine_ne (q : Pt) (b : Bool) : ptLine q ≠ headT b := fun e => by
  have : (32 : UInt8) ∈ ptLine q := by simp [ptLine, joined]
  rw [e] at this
  revert this
  cases b <;> decide

theorem stepP_pt {st : List PathV} (h : st ≠ []) {q : Pt} (hq : farP q = false) : stepP st (ptLine q) = some (addPt st q) := by
  have hb := near_of hq
  unfold near at hb
  unfold stepP
  rw [if_neg (show ptLine q ≠ openT from ptLine_ne q false), if_neg (show ptLine q ≠ closedT from ptLine_ne q true), ptLine_pieces]
  simp only [numsK]
  rw [num_itoa (by omega), num_itoa (by omega)]
  simp only [if_neg h]

theorem stepP_head (st : List PathV) (b : Bool) : stepP st (headT b) = some (st ++ [⟨[], b⟩]) := by
  cases b
  · rfl
  · unfold stepP
    rw [if_neg (by decide)]; rfl

theorem readL_pts {st : List PathV} {i : Nat} {p : PathV} {m : List Pt} (hq : ∀ q ∈ m, farP q = false) (r : List (List UInt8)) : ∃ j, readL stepP (st ++ [p]) i (m.map ptLine ++ r) true = readL stepP (st ++ [⟨p.pts ++ m, p.cl⟩]) j r true := by
  induction m generalizing p i with
  | nil => exact ⟨i, by simp⟩
  | cons q m ih =>
    have h1 := stepP_pt (st := st ++ [p]) (by simp) (hq q (by simp))
    obtain ⟨j, hj⟩ := ih (p := ⟨p.pts ++ [q], p.cl⟩) (i := i + 1) (fun x hx => hq x (List.mem_cons_of_mem _ hx))
    refine ⟨j, ?_⟩
    rw [List.map_cons, List.cons_append, readL_good i _ _ h1 (.inr rfl)]
    unfold addPt
    rw [List.getLast?_concat]
    simp only [List.dropLast_concat]
    rw [hj]
    simp

theorem readL_text {l : List PathV} (hp : ∀ p ∈ l, ∀ q ∈ p.pts, farP q = false) (st : List PathV) (i : Nat) : readL stepP st i (allLines l) true = (st ++ l, none) := by
  induction l generalizing st i with
  | nil => simp [allLines, readL_nil]
  | cons p l ih =>
    have e : allLines (p :: l) = headT p.cl :: (p.pts.map ptLine ++ allLines l) := by simp [allLines, pathLines]
    rw [e, readL_good i _ _ (stepP_head st p.cl) (.inr rfl)]
    obtain ⟨j, hj⟩ := readL_pts (st := st) (i := i + 1) (p := ⟨[], p.cl⟩) (hp p (by simp)) (allLines l)
    rw [hj, ih (fun x hx => hp x (List.mem_cons_of_mem _ hx))]
    simp

theorem readP_text {l : List PathV} (hp : pathsF l = 0) (hl : (pathText l).length ≤ 200000) : readP (pathText l) = (l, 0, 0) := by
  unfold readP
  rw [if_neg (by omega)]
  unfold pathText
  rw [linesK_ended (allLines_no l)]
  simp only
  rw [readL_text (fun p h => (pathF_zero ((pathsF_zero hp).2 p h)).2.2) [] 0]
  simp [hp]

theorem stepP_lines {st st' : List PathV} {x : List UInt8} (h : stepP st x = some st') : allLines st' = allLines st ++ [x] := by
  unfold stepP at h
  split at h
  · rename_i hx
    injection h with h
    subst h hx
    rw [allLines_snoc]; rfl
  · split at h
    · rename_i hx
      injection h with h
      subst h hx
      rw [allLines_snoc]; rfl
    · split at h
      · rename_i a b hn
        split at h
        · cases h
        · rename_i hst
          injection h with h
          subst h
          obtain ⟨y, z, e, h1, h2⟩ := numsK_two hn
          rw [allLines_add hst]
          congr 2
          have e2 := joined_pieces _ x (Nat.le_refl _)
          rw [e, ← (numK_iff.1 h1).1, ← (numK_iff.1 h2).1] at e2
          exact e2
      · cases h

theorem readL_lines {st st' : List PathV} {i : Nat} {l : List (List UInt8)} {e : Bool} (h : readL stepP st i l e = (st', none)) : allLines st' = allLines st ++ l := by
  induction l generalizing st i with
  | nil => simp only [readL_nil, Prod.mk.injEq, and_true] at h; subst h; simp
  | cons x r ih =>
    unfold readL at h
    split at h
    · cases h
    · split at h
      · cases h
      · rename_i st2 hs
        rw [ih h, stepP_lines hs]; simp

theorem readP_back {s : List UInt8} (h : (readP s).2.2 = 0) : pathsF (readP s).1 = 0 ∧ pathText (readP s).1 = s ∧ s.length ≤ 200000 := by
  unfold readP at h ⊢
  split
  · rename_i hl
    rw [if_pos hl] at h
    cases h
  · rename_i hl
    rw [if_neg hl] at h
    split
    · rename_i hr
      rw [hr] at h
      cases h
    · rename_i st hr
      rw [hr] at h
      simp only at h
      split
      · rename_i hf
        refine ⟨hf, ?_, by omega⟩
        have h1 := readL_lines hr
        rcases readL_all hr with he | he
        · rw [he] at h1
          simp [allLines] at h1
          simp only [pathText]
          by_cases hs : s = []
          · subst hs
            simp only [allLines]
            rw [show (List.map pathLines st).flatten = [] by simpa using h1]; rfl
          · exfalso
            unfold linesK at he
            rw [if_neg hs] at he
            split at he <;> exact pieces_ne _ _ he
        · obtain ⟨h2, -⟩ := linesK_back _ s (Nat.le_refl _) he
          simp only [pathText]
          rw [h1]
          simpa [allLines] using h2
      · rename_i hf
        rw [if_neg hf] at h
        exact absurd h hf

end Go.Proofs.YtfleljmmfkkkpaaGreatDoor
