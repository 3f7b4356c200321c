/- Contracts of functions that this seat's laws reach, each: what one call returns and what it leaves in memory; no condition beyond each theorem's own hypotheses. -/
import Derived.Test.YtoldefommoiiiaaGreatDoorZqChgA
import Derived.Test.YtoldefommoiiiaaGreatDoorZqRowsP
set_option linter.unusedVariables false
set_option linter.unusedSimpArgs false
namespace Go.Proofs.YtoldefommoiiiaaGreatDoor
open Go Go.RowKit Go.Bl

theorem stepP_eq (st : List PathV) (x : List UInt8) : stepP st x = if x = openT then some (st ++ [⟨[], false⟩]) else if x = closedT then some (st ++ [⟨[], true⟩]) else match ptOf x with
    | some q => if st = [] then none else some (addPt st q)
    | none => none := by
  unfold stepP ptOf
  split
  · rfl
  · split
    · rfl
    · cases numsK (pieces 32 x) with
      | none => rfl
      | some r =>
        match r with
        | [] => rfl
        | [a] => rfl
        | [a, b] => rfl
        | a :: b :: c :: r => rfl

def finP (st : List PathV) : List PathV × Int × Int := if pathsF st = 0 then (st, 0, 0) else ([], 0, pathsF st)

def endP (r : List PathV × Option Nat) : List PathV × Int × Int := match r with
  | (_, some i) => ([], (i : Int), 9)
  | (st, none) => finP st

theorem readP_eq (s : List UInt8) : readP s = if 200000 < s.length then (([], 0, 2) : List PathV × Int × Int) else endP (readL stepP [] 0 (linesK s).1 (linesK s).2) := by
  unfold readP endP finP
  split
  · rfl
  · split <;> rename_i h <;> rw [h]

theorem linesK_size (s : List UInt8) : (∀ x ∈ (linesK s).1, x.length ≤ s.length) ∧ (linesK s).1.length ≤ s.length + 1 := by
  unfold linesK
  split
  · simp
  · split
    · obtain ⟨h1, h2⟩ := pieces_size 10 s.dropLast
      rw [List.length_dropLast] at h1 h2
      exact ⟨fun x hx => by have := h1 x hx; omega, by simp only; omega⟩
    · exact pieces_size 10 s

theorem addPt_set {st : List PathV} {n : Nat} (h : n + 1 = st.length) (q : Pt) : addPt st q = st.set n ⟨st[n].pts ++ [q], st[n].cl⟩ := by
  obtain ⟨r, p, rfl⟩ : ∃ r p, st = r ++ [p] := ⟨st.dropLast, st.getLast (by intro e; rw [e] at h; simp at h), (List.dropLast_concat_getLast _).symm⟩
  have hn : n = r.length := by simp at h; omega
  subst hn
  unfold addPt
  rw [List.getLast?_concat]
  simp

theorem rd_bad {st : List PathV} {Ld : List (List UInt8)} {E : Bool} {k : Nat} {x : List UInt8} {RR : List PathV × Int × Int} (hR : endP (readL stepP [] 0 Ld E) = RR) (hrd : readL stepP [] 0 Ld E = readL stepP st k (Ld.drop k) E) (hxd : Ld.drop k = x :: Ld.drop (k + 1)) (h : stepP st x = none ∨ (Ld.drop (k + 1) = [] ∧ E = false)) : RR = ([], (k : Int), 9) := by
  rw [← hR, hrd, hxd]
  rcases h with h | ⟨h, rfl⟩
  · rw [readL_bad _ _ _ h]; rfl
  · rw [h, readL_open]; rfl

theorem rd_good {st st' : List PathV} {Ld : List (List UInt8)} {E : Bool} {k : Nat} {x : List UInt8} (hrd : readL stepP [] 0 Ld E = readL stepP st k (Ld.drop k) E) (hxd : Ld.drop k = x :: Ld.drop (k + 1)) (h : stepP st x = some st') (he : Ld.drop (k + 1) ≠ [] ∨ E = true) : readL stepP [] 0 Ld E = readL stepP st' (k + 1) (Ld.drop (k + 1)) E := by
  rw [hrd, hxd, readL_good _ _ _ h he]

end Go.Proofs.YtoldefommoiiiaaGreatDoor
