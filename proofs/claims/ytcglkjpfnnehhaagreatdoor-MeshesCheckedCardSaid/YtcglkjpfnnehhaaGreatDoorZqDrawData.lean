/- Contracts of functions that this seat's laws reach, each: what one call returns and what it leaves in memory; no condition beyond each theorem's own hypotheses. -/
import Derived.Test.YtcglkjpfnnehhaaGreatDoorZqTextData
import Derived.Test.YtcglkjpfnnehhaaGreatDoorZqSpoolData
import Derived.Lib.ItoaLen
set_option linter.unusedVariables false
set_option linter.unusedSimpArgs false
namespace Go.Proofs.YtcglkjpfnnehhaaGreatDoor
open Go Go.RowKit Go.Bl

def drawLine (d : Drw) : List UInt8 := joined [Lib.itoa d.at_, d.spool.data.toList, Lib.itoa d.long]

def drawText (l : List Drw) : List UInt8 := ended (l.map drawLine)
/-- a draw out of words -/
def wordsD : List (List UInt8) → Option Drw
  | [a, b, c] => if b = [] then none else match numK a, numK c with
    | some n, some m => some ⟨n, mkB b, m⟩
    | _, _ => none
  | _ => none

def stepD (st : List Drw) (x : List UInt8) : Option (List Drw) := (wordsD (pieces 32 x)).map fun d => st ++ [d]

def txF (d : List Drw) (k : Nat) : Int := if momO (d.getD k default).at_ then 1 else if keyB (d.getD k default).spool then (if longO (d.getD k default).long then 1 else 0) else 5

def txsF (d : List Drw) : Int := if 5000 < d.length then 2 else scanN (txF d) d.length

def finD (st : List Drw) : List Drw × Int × Int := if txsF st = 0 then (st, 0, 0) else ([], 0, txsF st)

def endD (r : List Drw × Option Nat) : List Drw × Int × Int := match r with
  | (_, some i) => ([], (i : Int), 9)
  | (st, none) => finD st

def readD (s : List UInt8) : List Drw × Int × Int := if 200000 < s.length then (([], 0, 2) : List Drw × Int × Int) else endD (readL stepD [] 0 (linesK s).1 (linesK s).2)

theorem keyB_all {s : ByteArray} (h : keyB s = true) : s.data.toList ≠ [] ∧ s.size ≤ 40 ∧ ∀ b, b ∈ s.data.toList → b ∈ keyL := by
  unfold keyB at h
  simp only [Bool.and_eq_true, decide_eq_true_eq] at h
  obtain ⟨⟨⟨h1, h2⟩, -⟩, h4⟩ := h
  rw [trimS_empty] at h4
  refine ⟨fun e => ?_, h2, fun b hb => ?_⟩
  · have h5 := Lib.size_eq s
    rw [e, List.length_nil] at h5
    omega
  · have := List.all_eq_true.1 h4 b hb
    simpa using this

theorem keyB_no {s : ByteArray} (h : keyB s = true) {b : UInt8} (hb : b = 10 ∨ b = 32) : b ∉ s.data.toList := fun h1 => by
  have h2 := (keyB_all h).2.2 b h1
  rcases hb with rfl | rfl <;> exact absurd h2 (by decide)

structure TxOk (d : Drw) : Prop where
  at1 : 0 ≤ d.at_ ∧ d.at_ ≤ 345686399999
  key : keyB d.spool = true
  lo1 : -1000000000 ≤ d.long ∧ d.long ≤ 1000000000

theorem txsF_zero {l : List Drw} (h : txsF l = 0) : l.length ≤ 5000 ∧ ∀ d ∈ l, TxOk d := by
  unfold txsF at h
  by_cases h1 : 5000 < l.length
  · rw [if_pos h1] at h; cases h
  · rw [if_neg h1] at h
    refine ⟨by omega, fun d hd => ?_⟩
    obtain ⟨k, hk, rfl⟩ := List.getElem_of_mem hd
    have h2 := scanN_all h k hk
    unfold txF at h2
    rw [show l.getD k default = l[k] by simp [List.getD, hk]] at h2
    by_cases a1 : momO l[k].at_ = true
    · rw [if_pos a1] at h2; cases h2
    · rw [if_neg a1] at h2
      by_cases a2 : keyB l[k].spool = true
      · rw [if_pos a2] at h2
        by_cases a3 : longO l[k].long = true
        · rw [if_pos a3] at h2; cases h2
        · refine ⟨?_, a2, ?_⟩
          · unfold momO outB at a1; simp at a1; omega
          · unfold longO outB at a3; simp at a3; omega
      · rw [if_neg a2] at h2; cases h2

theorem drawLine_no {d : Drw} (h : TxOk d) : (10 : UInt8) ∉ drawLine d := by
  simp only [drawLine, joined, List.mem_append, List.mem_cons, not_or]
  exact ⟨itoa_no _ (.inl rfl), by decide, keyB_no h.key (.inl rfl), by decide, itoa_no _ (.inl rfl)⟩

theorem drawLine_pieces {d : Drw} (h : TxOk d) : pieces 32 (drawLine d) = [Lib.itoa d.at_, d.spool.data.toList, Lib.itoa d.long] :=
  pieces_joined (by simp) (fun x hx => by
    simp only [List.mem_cons, List.not_mem_nil, or_false] at hx
    rcases hx with rfl | rfl | rfl
    · exact itoa_no _ (.inr rfl)
    · exact keyB_no h.key (.inr rfl)
    · exact itoa_no _ (.inr rfl))

theorem stepD_line (st : List Drw) {d : Drw} (h : TxOk d) : stepD st (drawLine d) = some (st ++ [d]) := by
  have h1 := h.at1
  have h2 := h.lo1
  unfold stepD
  rw [drawLine_pieces h, wordsD, if_neg (keyB_all h.key).1, num_itoa (by omega), num_itoa (by omega)]
  rfl

theorem readL_draws {l : List Drw} (h : ∀ d ∈ l, TxOk d) (st : List Drw) (i : Nat) : readL stepD st i (l.map drawLine) true = (st ++ l, none) := by
  induction l generalizing st i with
  | nil => simp [readL_nil]
  | cons d l ih =>
    rw [List.map_cons, readL_good i _ _ (stepD_line st (h d (by simp))) (.inr rfl), ih (fun x hx => h x (List.mem_cons_of_mem _ hx))]
    simp

theorem readD_text {l : List Drw} (hp : txsF l = 0) (hl : (drawText l).length ≤ 200000) : readD (drawText l) = (l, 0, 0) := by
  unfold readD
  rw [if_neg (by omega)]
  have h1 := (txsF_zero hp).2
  unfold drawText
  rw [linesK_ended (fun x hx => by obtain ⟨d, hd, rfl⟩ := List.mem_map.1 hx; exact drawLine_no (h1 d hd))]
  simp only
  rw [readL_draws h1 [] 0]
  simp [endD, finD, hp]

theorem wordsD_back {x : List UInt8} {d : Drw} (h : wordsD (pieces 32 x) = some d) : drawLine d = x := by
  have e2 := joined_pieces _ x (Nat.le_refl _)
  unfold wordsD at h
  split at h
  · rename_i a b c hp
    rw [hp] at e2
    split at h
    · cases h
    · split at h
      · rename_i n m h1 h2
        injection h with h
        subst h
        rw [← (numK_iff.1 h1).1, ← (numK_iff.1 h2).1] at e2
        exact e2
      · cases h
  · cases h

theorem readL_drew {st st' : List Drw} {i : Nat} {l : List (List UInt8)} {e : Bool} (h : readL stepD st i l e = (st', none)) : st'.map drawLine = st.map drawLine ++ l := by
  induction l generalizing st i with
  | nil => simp only [readL_nil, Prod.mk.injEq, and_true] at h; subst h; simp
  | cons x r ih =>
    unfold readL at h
    split at h
    · cases h
    · split at h
      · cases h
      · rename_i st2 hs
        unfold stepD at hs
        cases hw : wordsD (pieces 32 x) with
        | none => rw [hw] at hs; cases hs
        | some d =>
          rw [hw] at hs
          injection hs with hs
          subst hs
          rw [ih h, List.map_append, List.map_cons, List.map_nil, wordsD_back hw]; simp

theorem readD_back {s : List UInt8} (h : (readD s).2.2 = 0) : txsF (readD s).1 = 0 ∧ drawText (readD s).1 = s ∧ s.length ≤ 200000 := by
  unfold readD at h ⊢
  split
  · rename_i hl
    rw [if_pos hl] at h
    cases h
  · rename_i hl
    rw [if_neg hl] at h
    rcases hr : readL stepD [] 0 (linesK s).1 (linesK s).2 with ⟨st, _ | i⟩
    · rw [hr] at h
      simp only [endD, finD] at h ⊢
      by_cases hf : txsF st = 0
      · rw [if_pos hf]
        refine ⟨hf, ?_, by omega⟩
        have h1 := readL_drew hr
        simp only [List.map_nil, List.nil_append] at h1
        unfold drawText
        rw [h1]
        rcases readL_all hr with he | he
        · rw [he]
          by_cases hs : s = []
          · subst hs; rfl
          · exfalso
            unfold linesK at he
            rw [if_neg hs] at he
            split at he <;> exact pieces_ne _ _ he
        · exact (linesK_back _ s (Nat.le_refl _) he).1
      · rw [if_neg hf] at h
        exact absurd h hf
    · rw [hr] at h
      cases h

theorem drawLine_len {d : Drw} (h : TxOk d) : (drawLine d).length ≤ 90 := by
  have h1 := h.at1
  have h2 := h.lo1
  have h3 := (keyB_all h.key).2.1
  have h4 := Lib.size_eq d.spool
  have a1 : (Lib.itoa d.at_).length ≤ 21 := Lib.itoa_length_le d.at_ (by omega) (by omega)
  have a2 : (Lib.itoa d.long).length ≤ 21 := Lib.itoa_length_le d.long (by omega) (by omega)
  simp only [drawLine, joined, List.length_append, List.length_cons]
  omega

theorem drawText_len {l : List Drw} (h : ∀ d ∈ l, TxOk d) : (drawText l).length ≤ 91 * l.length := by
  induction l with
  | nil => simp [drawText, ended]
  | cons d l ih =>
    have e1 := ih (fun x hx => h x (List.mem_cons_of_mem _ hx))
    have e2 := drawLine_len (h d (by simp))
    unfold drawText at *
    rw [List.map_cons, ended_cons, List.length_append, List.length_cons, List.length_cons]
    omega

end Go.Proofs.YtcglkjpfnnehhaaGreatDoor
