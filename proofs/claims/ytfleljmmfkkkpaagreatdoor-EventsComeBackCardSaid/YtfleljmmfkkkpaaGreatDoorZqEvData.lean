/- Contracts of functions that this seat's laws reach, each: what one call returns and what it leaves in memory; no condition beyond each theorem's own hypotheses. -/
import Derived.Test.YtfleljmmfkkkpaaGreatDoorZqTextData
import Derived.Test.YtfleljmmfkkkpaaGreatDoorZqSpoolData
import Derived.Lib.ItoaLen
set_option linter.unusedVariables false
set_option linter.unusedSimpArgs false
namespace Go.Proofs.YtfleljmmfkkkpaaGreatDoor
open Go Go.RowKit Go.Bl

def drawLine (d : Drw) : List UInt8 := joined [Lib.itoa d.at_, d.spool.data.toList, Lib.itoa d.long]

def drawText (l : List Drw) : List UInt8 := ended (l.map drawLine)
/-- a draw out of words -/
def wordsD : List (List UInt8) → Option Drw
  | [a, b, c] => if b = [] then none else match numK a, numK c with
    | some n, some m => some ⟨n, mkB b, m⟩
    | _, _ => none
  | _ => none

def stepD (st : List Drw) (x : List UInt8) : Option (List Drw) := (wordsD (pieces 32 x)).map fun d => st ++ [d]

def txF (d : List Drw) (k : Nat) : Int := if momO (d.getD k default).at_ then 1 else if keyB (d.getD k default).spool then (if longO (d.getD k default).long then 1 else 0) else 5

def txsF (d : List Drw) : Int := if 5000 < d.length then 2 else scanN (txF d) d.length

def finD (st : List Drw) : List Drw × Int × Int := if txsF st = 0 then (st, 0, 0) else ([], 0, txsF st)

def endD (r : List Drw × Option Nat) : List Drw × Int × Int := match r with
  | (_, some i) => ([], (i : Int), 9)
  | (st, none) => finD st

def readD (s : List UInt8) : List Drw × Int × Int := if 200000 < s.length then (([], 0, 2) : List Drw × Int × Int) else endD (readL stepD [] 0 (linesK s).1 (linesK s).2)

theorem keyB_all {s : ByteArray} (h : keyB s = true) : s.data.toList ≠ [] ∧ s.size ≤ 40 ∧ ∀ b, b ∈ s.data.toList → b ∈ keyL := by
  unfold keyB at h
  simp only [Bool.and_eq_true, decide_eq_true_eq] at h
  obtain ⟨⟨⟨h1, h2⟩, -⟩, h4⟩ := h
  rw [trimS_empty] at h4
  refine ⟨fun e => ?_, h2, fun b hb => ?_⟩
  · have h5 := Lib.size_eq s
    rw [e, List.length_nil] at h5
    omega
  · have := List.all_eq_true.1 h4 b hb
    simpa using this

theorem keyB_no {s : ByteArray} (h : keyB s = true) {b : UInt8} (hb : b = 10 ∨ b = 32) : b ∉ s.data.toList := fun h1 => by
  have h2 := (keyB_all h).2.2 b h1
  rcases hb with rfl | rfl <;> exact absurd h2 (by decide)

structure TxOk (d : Drw) : Prop where
  at1 : 0 ≤ d.at_ ∧ d.at_ ≤ 345686399999
  key : keyB d.spool = true
  lo1 : -1000000000 ≤ d.long ∧ d.long ≤ 1000000000

theorem txsF_zero {l : List Drw} (h : txsF l = 0) : l.length ≤ 5000 ∧ ∀ d ∈ l, TxOk d := by
  unfold txsF at h
  by_cases h1 : 5000 < l.length
  · rw [if_pos h1] at h; cases h
  · rw [if_neg h1] at h
    refine ⟨by omega, fun d hd => ?_⟩
    obtain ⟨k, hk, rfl⟩ := List.getElem_of_mem hd
    have h2 := scanN_all h k hk
    unfold txF at h2
    rw [show l.getD k default = l[k] by simp [List.getD, hk]] at h2
    by_cases a1 : momO l[k].at_ = true
    · rw [if_pos a1] at h2; cases h2
    · rw [if_neg a1] at h2
      by_cases a2 : keyB l[k].spool = true
      · rw [if_pos a2] at h2
        by_cases a3 : longO l[k].long = true
        · rw [if_pos a3] at h2; cases h2
        · refine ⟨?_, a2, ?_⟩
          · unfold momO outB at a1; simp at a1; omega
          · unfold longO outB at a3; simp at a3; omega
      · rw [if_neg a2] at h2; cases h2

theorem drawLine_no {d : Drw} (h : TxOk d) : (10 : UInt8) ∉ drawLine d := by
  simp only [drawLine, joined, List.mem_append, List.mem_cons, not_or]
  exact ⟨itoa_no _ (.inl rfl), by decide, keyB_no h.key (.inl rfl), by decide, itoa_no _ (.inl rfl)⟩

theorem drawLine_pieces {d : Drw} (h : TxOk d) : pieces 32 (drawLine d) = [Lib.itoa d.at_, d.spool.data.toList, Lib.itoa d.long] :=
  pieces_joined (by simp) (fun x hx => by
    simp only [List.mem_cons, List.not_mem_nil, or_false] at hx
    rcases hx with rfl | rfl | rfl
    · exact itoa_no _ (.inr rfl)
    · exact keyB_no h.key (.inr rfl)
    · exact itoa_no _ (.inr rfl))

theorem stepD_line (st : List Drw) {d : Drw} (h : TxOk d) : stepD st (drawLine d) = some (st ++ [d]) := by
  have h1 := h.at1
  have h2 := h.lo1
  unfold stepD
  rw [drawLine_pieces h, wordsD, if_neg (keyB_all h.key).1, num_itoa (by omega), num_itoa (by omega)]
  rfl

theorem readL_draws {l : List Drw} (h : ∀ d ∈ l, TxOk d) (st : List Drw) (i : Nat) : readL stepD st i (l.map drawLine) true = (st ++ l, none) := by
  induction l generalizing st i with
  | nil => simp [readL_nil]
  | cons d l ih =>
    rw [List.map_cons, readL_good i _ _ (stepD_line st (h d (by simp))) (.inr rfl), ih (fun x hx => h x (List.mem_cons_of_mem _ hx))]
    simp

theorem readD_text {l : List Drw} (hp : txsF l = 0) (hl : (drawText l).length ≤ 200000) : readD (drawText l) = (l, 0, 0) := by
  unfold readD
  rw [if_neg (by omega)]
  have h1 := (txsF_zero hp).2
  unfold drawText
  rw [linesK_ended (fun x hx => by obtain ⟨d, hd, rfl⟩ := List.mem_map.1 hx; exact drawLine_no (h1 d hd))]
  simp only
  rw [readL_draws h1 [] 0]
  simp [endD, finD, hp]

theorem wordsD_back {x : List UInt8} {d : Drw} (h : wordsD (pieces 32 x) = some d) : drawLine d = x := by
  have e2 := joined_pieces _ x (Nat.le_refl _)
  unfold wordsD at h
  split at h
  · rename_i a b c hp
    rw [hp] at e2
    split at h
    · cases h
    · split at h
      · rename_i n m h1 h2
        injection h with h
        subst h
        rw [← (numK_iff.1 h1).1, ← (numK_iff.1 h2).1] at e2
        exact e2
      · cases h
  · cases h

theorem readL_drew {st st' : List Drw} {i : Nat} {l : List (List UInt8)} {e : Bool} (h : readL stepD st i l e = (st', none)) : st'.map drawLine = st.map drawLine ++ l := by
  induction l generalizing st i with
  | nil => simp only [readL_nil, Prod.mk.injEq, and_true] at h; subst h; simp
  | cons x r ih =>
    unfold readL at h
    split at h
    · cases h
    · split at h
      · cases h
      · rename_i st2 hs
        unfold stepD at hs
        cases hw : wordsD (pieces 32 x) with
        | none => rw [hw] at hs; cases hs
        | some d =>
          rw [hw] at hs
          injection hs with hs
          subst hs
          rw [ih h, List.map_append, List.map_cons, List.map_nil, wordsD_back hw]; simp

theorem readD_back {s : List UInt8} (h : (readD s).2.2 = 0) : txsF (readD s).1 = 0 ∧ drawText (readD s).1 = s ∧ s.length ≤ 200000 := by
  unfold readD at h ⊢
  split
  · rename_i hl
    rw [if_pos hl] at h
    cases h
  · rename_i hl
    rw [if_neg hl] at h
    rcases hr : readL stepD [] 0 (linesK s).1 (linesK s).2 with ⟨st, _ | i⟩
    · rw [hr] at h
      simp only [endD, finD] at h ⊢
      by_cases hf : txsF st = 0
      · rw [if_pos hf]
        refine ⟨hf, ?_, by omega⟩
        have h1 := readL_drew hr
        simp only [List.map_nil, List.nil_append] at h1
        unfold drawText
        rw [h1]
        rcases readL_all hr with he | he
        · rw [he]
          by_cases hs : s = []
          · subst hs; rfl
          · exfalso
            unfold linesK at he
            rw [if_neg hs] at he
            split at he <;> exact pieces_ne _ _ he
        · exact (linesK_back _ s (Nat.le_refl _) he).1
      · rw [if_neg hf] at h
        exact absurd h hf
    · rw [hr] at h
      cases h

theorem drawLine_len {d : Drw} (h : TxOk d) : (drawLine d).length ≤ 90 := by
  have h1 := h.at1
  have h2 := h.lo1
  have h3 := (keyB_all h.key).2.1
  have h4 := Lib.size_eq d.spool
  have a1 : (Lib.itoa d.at_).length ≤ 21 := Lib.itoa_length_le d.at_ (by omega) (by omega)
  have a2 : (Lib.itoa d.long).length ≤ 21 := Lib.itoa_length_le d.long (by omega) (by omega)
  simp only [drawLine, joined, List.length_append, List.length_cons]
  omega

theorem drawText_len {l : List Drw} (h : ∀ d ∈ l, TxOk d) : (drawText l).length ≤ 91 * l.length := by
  induction l with
  | nil => simp [drawText, ended]
  | cons d l ih =>
    have e1 := ih (fun x hx => h x (List.mem_cons_of_mem _ hx))
    have e2 := drawLine_len (h d (by simp))
    unfold drawText at *
    rw [List.map_cons, ended_cons, List.length_append, List.length_cons, List.length_cons]
    omega

end Go.Proofs.YtfleljmmfkkkpaaGreatDoor

namespace Go.Proofs.YtfleljmmfkkkpaaGreatDoor
open Go Go.RowKit Go.Bl

structure Ev where
  at_ : Int
  kind : Int
  pr : ByteArray
  job : ByteArray
  mat : ByteArray
deriving DecidableEq

instance : Inhabited Ev := ⟨⟨0, 0, ⟨#[]⟩, ⟨#[]⟩, ⟨#[]⟩⟩⟩

instance : Enc Ev where
  sz := 5
  rep := fun _ _ p cs => cs = [.int .i64 p.at_, .int .i64 p.kind, .string p.pr, .string p.job, .string p.mat]
  len := by rintro w lo x cs rfl; rfl
  one := by rintro w lo x cs rfl u hu; simp at hu; rcases hu with rfl | rfl | rfl | rfl | rfl <;> rfl
  keep := fun h _ => h
  mono := fun h _ => h

instance : Flat Ev := ⟨fun h => h, by decide⟩

def kwL : List (List UInt8) := [[], [115, 116, 97, 114, 116], [100, 111, 110, 101], [102, 97, 105, 108], [99, 104, 97, 110, 103, 101], [115, 116, 111, 112], [115, 101, 114, 118, 101]]

def kwB : List ByteArray := [⟨#[]⟩, ⟨#[115, 116, 97, 114, 116]⟩, ⟨#[100, 111, 110, 101]⟩, ⟨#[102, 97, 105, 108]⟩, ⟨#[99, 104, 97, 110, 103, 101]⟩, ⟨#[115, 116, 111, 112]⟩, ⟨#[115, 101, 114, 118, 101]⟩]

def kw (k : Int) : List UInt8 := kwL.getD k.toNat []

def xtra (e : Ev) : List UInt8 := e.job.data.toList ++ e.mat.data.toList

def evWords (e : Ev) : List (List UInt8) := [Lib.itoa e.at_, e.pr.data.toList, kw e.kind] ++ (if xtra e = [] then [] else [xtra e])

def evLine (e : Ev) : List UInt8 := joined (evWords e)

def evText (l : List Ev) : List UInt8 := ended (l.map evLine)

def kindO (k : Int) : Bool := outB k 1 6

def formB (e : Ev) : Bool := (!(e.kind == 1) && decide (e.job ≠ ⟨#[]⟩)) || (!(e.kind == 4) && decide (e.mat ≠ ⟨#[]⟩))

def usedB (e : Ev) : Bool := (e.kind == 1 && !keyB e.job) || (e.kind == 4 && !keyB e.mat)

def lateB (l : List Ev) (k : Nat) : Bool := decide (0 < k) && decide ((l.getD k default).at_ < (l.getD (k - 1) default).at_)

def evF (l : List Ev) (k : Nat) : Int :=
  if momO (l.getD k default).at_ then 1 else if kindO (l.getD k default).kind then 4 else if formB (l.getD k default) then 3
  else if !keyB (l.getD k default).pr || usedB (l.getD k default) then 5 else if lateB l k then 7 else 0

def evsF (l : List Ev) : Int := if 5000 < l.length then 2 else scanN (evF l) l.length
/-- the kind of a word; -1: none -/
def kindOf (w : List UInt8) : Int := if w = kw 1 then 1 else if w = kw 2 then 2 else if w = kw 3 then 3 else if w = kw 4 then 4 else if w = kw 5 then 5 else if w = kw 6 then 6 else -1

def wordsE (ps : List (List UInt8)) : Option Ev :=
  if ps.any (·.isEmpty) then none else
  match ps with
  | a :: b :: c :: r => match numK a with
    | none => none
    | some n => if kindO (kindOf c) then none
      else if kindOf c = 1 then (match r with | [x] => some ⟨n, kindOf c, mkB b, mkB x, ⟨#[]⟩⟩ | _ => none)
      else if kindOf c = 4 then (match r with | [x] => some ⟨n, kindOf c, mkB b, ⟨#[]⟩, mkB x⟩ | _ => none)
      else (match r with | [] => some ⟨n, kindOf c, mkB b, ⟨#[]⟩, ⟨#[]⟩⟩ | _ => none)
  | _ => none

def stepE (st : List Ev) (x : List UInt8) : Option (List Ev) := (wordsE (pieces 32 x)).map fun d => st ++ [d]

def finE (st : List Ev) : List Ev × Int × Int := if evsF st = 0 then (st, 0, 0) else ([], 0, evsF st)

def endE (r : List Ev × Option Nat) : List Ev × Int × Int := match r with
  | (_, some i) => ([], (i : Int), 9)
  | (st, none) => finE st

def readE (s : List UInt8) : List Ev × Int × Int := if 200000 < s.length then (([], 0, 2) : List Ev × Int × Int) else endE (readL stepE [] 0 (linesK s).1 (linesK s).2)

structure EvOk (e : Ev) : Prop where
  at1 : 0 ≤ e.at_ ∧ e.at_ ≤ 345686399999
  kd : 1 ≤ e.kind ∧ e.kind ≤ 6
  key : keyB e.pr = true
  j1 : e.kind = 1 → keyB e.job = true
  j0 : e.kind ≠ 1 → e.job = ⟨#[]⟩
  m1 : e.kind = 4 → keyB e.mat = true
  m0 : e.kind ≠ 4 → e.mat = ⟨#[]⟩

theorem evOk_of {e : Ev} (a1 : momO e.at_ = false) (a2 : kindO e.kind = false) (a3 : formB e = false) (a4 : keyB e.pr = true) (a5 : usedB e = false) : EvOk e := by
  unfold formB at a3
  unfold usedB at a5
  simp only [Bool.or_eq_false_iff, Bool.and_eq_false_iff, beq_eq_false_iff_ne, Bool.not_eq_false', beq_iff_eq, decide_eq_false_iff_not, Classical.not_not, ne_eq] at a3 a5
  refine ⟨?_, ?_, a4, fun h => ?_, fun h => ?_, fun h => ?_, fun h => ?_⟩
  · unfold momO outB at a1; simp at a1; omega
  · unfold kindO outB at a2; simp at a2; omega
  · exact a5.1.resolve_left (fun k => k h)
  · exact a3.1.resolve_left h
  · exact a5.2.resolve_left (fun k => k h)
  · exact a3.2.resolve_left h

theorem evF_zero {l : List Ev} {k : Nat} (h : evF l k = 0) : EvOk (l.getD k default) := by
  unfold evF at h
  by_cases a1 : momO (l.getD k default).at_ = true
  · rw [if_pos a1] at h; cases h
  rw [if_neg a1] at h
  by_cases a2 : kindO (l.getD k default).kind = true
  · rw [if_pos a2] at h; cases h
  rw [if_neg a2] at h
  by_cases a3 : formB (l.getD k default) = true
  · rw [if_pos a3] at h; cases h
  rw [if_neg a3] at h
  by_cases a4 : (!keyB (l.getD k default).pr || usedB (l.getD k default)) = true
  · rw [if_pos a4] at h; cases h
  rw [Bool.not_eq_true] at a1 a2 a3 a4
  rw [Bool.or_eq_false_iff, Bool.not_eq_false'] at a4
  exact evOk_of a1 a2 a3 a4.1 a4.2

theorem evsF_zero {l : List Ev} (h : evsF l = 0) : l.length ≤ 5000 ∧ ∀ d ∈ l, EvOk d := by
  unfold evsF at h
  by_cases h1 : 5000 < l.length
  · rw [if_pos h1] at h; cases h
  · rw [if_neg h1] at h
    refine ⟨by omega, fun d hd => ?_⟩
    obtain ⟨k, hk, rfl⟩ := List.getElem_of_mem hd
    have h2 := evF_zero (scanN_all h k hk)
    rwa [show l.getD k default = l[k] by simp [List.getD, hk]] at h2

theorem kw_cases {k : Int} (h : 1 ≤ k ∧ k ≤ 6) : k = 1 ∨ k = 2 ∨ k = 3 ∨ k = 4 ∨ k = 5 ∨ k = 6 := by omega

theorem kw_no {k : Int} (h : 1 ≤ k ∧ k ≤ 6) : (10 : UInt8) ∉ kw k ∧ (32 : UInt8) ∉ kw k ∧ kw k ≠ [] ∧ kindOf (kw k) = k ∧ (kw k).length ≤ 6 := by
  rcases kw_cases h with rfl | rfl | rfl | rfl | rfl | rfl <;> decide

theorem kindOf_back {w : List UInt8} (h : kindO (kindOf w) = false) : kw (kindOf w) = w := by
  unfold kindOf at h ⊢
  by_cases h1 : w = kw 1
  · rw [if_pos h1]; exact h1.symm
  rw [if_neg h1] at h ⊢
  by_cases h2 : w = kw 2
  · rw [if_pos h2]; exact h2.symm
  rw [if_neg h2] at h ⊢
  by_cases h3 : w = kw 3
  · rw [if_pos h3]; exact h3.symm
  rw [if_neg h3] at h ⊢
  by_cases h4 : w = kw 4
  · rw [if_pos h4]; exact h4.symm
  rw [if_neg h4] at h ⊢
  by_cases h5 : w = kw 5
  · rw [if_pos h5]; exact h5.symm
  rw [if_neg h5] at h ⊢
  by_cases h6 : w = kw 6
  · rw [if_pos h6]; exact h6.symm
  rw [if_neg h6] at h
  exact absurd h (by decide)

theorem nilB : (⟨#[]⟩ : ByteArray).data.toList = [] := rfl
/-- the words behind the third -/
def restE (e : Ev) : List (List UInt8) := if e.kind = 1 then [e.job.data.toList] else if e.kind = 4 then [e.mat.data.toList] else []

theorem evWords_ok {e : Ev} (h : EvOk e) : evWords e = [Lib.itoa e.at_, e.pr.data.toList, kw e.kind] ++ restE e := by
  unfold evWords restE xtra
  by_cases h1 : e.kind = 1
  · rw [if_pos h1, h.m0 (by omega), nilB, List.append_nil, if_neg (keyB_all (h.j1 h1)).1]
  · rw [if_neg h1, h.j0 h1, nilB, List.nil_append]
    by_cases h4 : e.kind = 4
    · rw [if_pos h4, if_neg (keyB_all (h.m1 h4)).1]
    · rw [if_neg h4, h.m0 h4, nilB, if_pos rfl]

theorem evWords_mem {e : Ev} (h : EvOk e) : ∀ x ∈ evWords e, (10 : UInt8) ∉ x ∧ (32 : UInt8) ∉ x ∧ x ≠ [] ∧ x.length ≤ 40 := by
  intro x hx
  rw [evWords_ok h] at hx
  have k := kw_no h.kd
  have ky : ∀ s : ByteArray, keyB s = true → (10 : UInt8) ∉ s.data.toList ∧ (32 : UInt8) ∉ s.data.toList ∧ s.data.toList ≠ [] ∧ s.data.toList.length ≤ 40 := fun s hs => by
    have h2 := keyB_all hs
    have h3 := Lib.size_eq s
    exact ⟨keyB_no hs (.inl rfl), keyB_no hs (.inr rfl), h2.1, by omega⟩
  have hat := h.at1
  have hit : (Lib.itoa e.at_).length ≤ 21 := Lib.itoa_length_le e.at_ (by omega) (by omega)
  have hne : Lib.itoa e.at_ ≠ [] := fun e' => by
    have := num_itoa (n := e.at_) (by omega)
    rw [e', show numK [] = none by decide] at this
    cases this
  simp only [List.mem_append, List.mem_cons, List.not_mem_nil, or_false] at hx
  rcases hx with (rfl | rfl | rfl) | hx
  · exact ⟨itoa_no _ (.inl rfl), itoa_no _ (.inr rfl), hne, by omega⟩
  · exact ky _ h.key
  · exact ⟨k.1, k.2.1, k.2.2.1, by omega⟩
  · unfold restE at hx
    by_cases h1 : e.kind = 1
    · rw [if_pos h1] at hx; rw [List.mem_singleton.1 hx]; exact ky _ (h.j1 h1)
    · rw [if_neg h1] at hx
      by_cases h4 : e.kind = 4
      · rw [if_pos h4] at hx; rw [List.mem_singleton.1 hx]; exact ky _ (h.m1 h4)
      · rw [if_neg h4] at hx; cases hx

theorem joined_no {b : UInt8} (hb : b ≠ 32) : ∀ {l : List (List UInt8)}, (∀ x ∈ l, b ∉ x) → b ∉ joined l
  | [], _ => by simp [joined]
  | [x], h => h x (by simp)
  | x :: y :: r, h => by
    simp only [joined, List.mem_append, List.mem_cons, not_or]
    exact ⟨h x (by simp), hb, joined_no hb (fun z hz => h z (List.mem_cons_of_mem _ hz))⟩

theorem evLine_no {e : Ev} (h : EvOk e) : (10 : UInt8) ∉ evLine e := joined_no (by decide) fun x hx => (evWords_mem h x hx).1

theorem evWords_ne (e : Ev) : evWords e ≠ [] := by unfold evWords; simp

theorem evLine_pieces {e : Ev} (h : EvOk e) : pieces 32 (evLine e) = evWords e := pieces_joined (evWords_ne e) (fun x hx => (evWords_mem h x hx).2.1)

theorem wordsE_ok {e : Ev} (h : EvOk e) : wordsE (evWords e) = some e := by
  have hany : (evWords e).any (·.isEmpty) = false := by
    rw [List.any_eq_false]
    intro x hx
    have := (evWords_mem h x hx).2.2.1
    simpa using this
  unfold wordsE
  rw [hany, if_neg (by decide), evWords_ok h]
  have hat := h.at1
  have hk := kw_no h.kd
  have hko : kindO e.kind = false := by have := h.kd; unfold kindO outB; simp; omega
  simp only [List.cons_append, List.nil_append]
  rw [num_itoa (by omega)]
  simp only
  rw [hk.2.2.2.1, hko, if_neg (by decide)]
  unfold restE
  obtain ⟨at_, kind, pr, job, mat⟩ := e
  by_cases h1 : kind = 1
  · have := h.m0 (by show kind ≠ 4; omega)
    simp only at this
    subst this
    simp only [h1, if_true, data_mkB]
  · have hj := h.j0 h1
    simp only at hj
    subst hj
    by_cases h4 : kind = 4
    · subst h4
      simp only [if_neg (show ¬ (4 : Int) = 1 by decide), if_true, data_mkB]
    · have hm := h.m0 h4
      simp only at hm
      subst hm
      simp only [if_neg h1, if_neg h4, data_mkB]

theorem stepE_line (st : List Ev) {e : Ev} (h : EvOk e) : stepE st (evLine e) = some (st ++ [e]) := by
  unfold stepE
  rw [evLine_pieces h, wordsE_ok h]
  rfl

theorem readL_events {l : List Ev} (h : ∀ d ∈ l, EvOk d) (st : List Ev) (i : Nat) : readL stepE st i (l.map evLine) true = (st ++ l, none) := by
  induction l generalizing st i with
  | nil => simp [readL_nil]
  | cons d l ih =>
    rw [List.map_cons, readL_good i _ _ (stepE_line st (h d (by simp))) (.inr rfl), ih (fun x hx => h x (List.mem_cons_of_mem _ hx))]
    simp

theorem readE_text {l : List Ev} (hp : evsF l = 0) (hl : (evText l).length ≤ 200000) : readE (evText l) = (l, 0, 0) := by
  unfold readE
  rw [if_neg (by omega)]
  have h1 := (evsF_zero hp).2
  unfold evText
  rw [linesK_ended (fun x hx => by obtain ⟨d, hd, rfl⟩ := List.mem_map.1 hx; exact evLine_no (h1 d hd))]
  simp only
  rw [readL_events h1 [] 0]
  simp [endE, finE, hp]

theorem wordsE_back {ps : List (List UInt8)} {e : Ev} (h : wordsE ps = some e) : evWords e = ps := by
  unfold wordsE at h
  by_cases ha : (ps.any (·.isEmpty)) = true
  · rw [if_pos ha] at h; cases h
  · rw [if_neg ha] at h
    rw [Bool.not_eq_true, List.any_eq_false] at ha
    split at h
    · rename_i a b c r
      cases hn : numK a with
      | none => rw [hn] at h; cases h
      | some n =>
        rw [hn] at h
        simp only at h
        by_cases hk : kindO (kindOf c) = true
        · rw [if_pos hk] at h; cases h
        · rw [if_neg hk] at h
          rw [Bool.not_eq_true] at hk
          have hkb := kindOf_back hk
          have hni := (numK_iff.1 hn).1
          by_cases h1 : kindOf c = 1
          · rw [if_pos h1] at h
            split at h
            · rename_i x
              injection h with h
              subst h
              have hx : x ≠ [] := by have := ha x (by simp); simpa using this
              unfold evWords xtra
              simp only [mkB_data, nilB, List.append_nil, hni, hkb, if_neg hx, List.cons_append, List.nil_append]
            · cases h
          · rw [if_neg h1] at h
            by_cases h4 : kindOf c = 4
            · rw [if_pos h4] at h
              split at h
              · rename_i x
                injection h with h
                subst h
                have hx : x ≠ [] := by have := ha x (by simp); simpa using this
                unfold evWords xtra
                simp only [mkB_data, nilB, List.nil_append, List.append_nil, hni, hkb, List.cons_append]
                exact congrArg (fun t => a :: b :: c :: t) (if_neg hx)
              · cases h
            · rw [if_neg h4] at h
              split at h
              · injection h with h
                subst h
                unfold evWords xtra
                simp only [mkB_data, nilB, List.nil_append, hni, hkb, if_true, List.append_nil]
              · cases h
    · cases h

theorem readL_evs {st st' : List Ev} {i : Nat} {l : List (List UInt8)} {e : Bool} (h : readL stepE st i l e = (st', none)) : st'.map evLine = st.map evLine ++ l := by
  induction l generalizing st i with
  | nil => simp only [readL_nil, Prod.mk.injEq, and_true] at h; subst h; simp
  | cons x r ih =>
    unfold readL at h
    split at h
    · cases h
    · split at h
      · cases h
      · rename_i st2 hs
        unfold stepE at hs
        cases hw : wordsE (pieces 32 x) with
        | none => rw [hw] at hs; cases hs
        | some d =>
          rw [hw] at hs
          injection hs with hs
          subst hs
          have hb : evLine d = x := by unfold evLine; rw [wordsE_back hw]; exact joined_pieces _ x (Nat.le_refl _)
          rw [ih h, List.map_append, List.map_cons, List.map_nil, hb]; simp

theorem readE_back {s : List UInt8} (h : (readE s).2.2 = 0) : evsF (readE s).1 = 0 ∧ evText (readE s).1 = s ∧ s.length ≤ 200000 := by
  unfold readE at h ⊢
  split
  · rename_i hl
    rw [if_pos hl] at h
    cases h
  · rename_i hl
    rw [if_neg hl] at h
    rcases hr : readL stepE [] 0 (linesK s).1 (linesK s).2 with ⟨st, _ | i⟩
    · rw [hr] at h
      simp only [endE, finE] at h ⊢
      by_cases hf : evsF st = 0
      · rw [if_pos hf]
        refine ⟨hf, ?_, by omega⟩
        have h1 := readL_evs hr
        simp only [List.map_nil, List.nil_append] at h1
        unfold evText
        rw [h1]
        rcases readL_all hr with he | he
        · rw [he]
          by_cases hs : s = []
          · subst hs; rfl
          · exfalso
            unfold linesK at he
            rw [if_neg hs] at he
            split at he <;> exact pieces_ne _ _ he
        · exact (linesK_back _ s (Nat.le_refl _) he).1
      · rw [if_neg hf] at h
        exact absurd h hf
    · rw [hr] at h
      cases h

theorem joined_len : ∀ {l : List (List UInt8)} {m : Nat}, (∀ x ∈ l, x.length ≤ m) → (joined l).length ≤ (m + 1) * l.length
  | [], _, _ => by simp [joined]
  | [x], m, h => by have := h x (by simp); simp only [joined, List.length_cons, List.length_nil]; omega
  | x :: y :: r, m, h => by
    have h1 := h x (by simp)
    have h2 := joined_len (l := y :: r) (m := m) (fun z hz => h z (List.mem_cons_of_mem _ hz))
    simp only [joined, List.length_append, List.length_cons] at *
    have e : (m + 1) * (r.length + 1 + 1) = (m + 1) * (r.length + 1) + (m + 1) := Nat.mul_succ _ _
    omega

theorem evLine_len {e : Ev} (h : EvOk e) : (evLine e).length ≤ 164 := by
  have h1 := joined_len (l := evWords e) (m := 40) (fun x hx => (evWords_mem h x hx).2.2.2)
  have h2 : (evWords e).length ≤ 4 := by unfold evWords; split <;> simp
  have h3 : (40 + 1) * (evWords e).length ≤ 41 * 4 := Nat.mul_le_mul_left 41 h2
  show (joined (evWords e)).length ≤ 164
  omega

theorem evText_len {l : List Ev} (h : ∀ d ∈ l, EvOk d) : (evText l).length ≤ 165 * l.length := by
  induction l with
  | nil => simp [evText, ended]
  | cons d l ih =>
    have e1 := ih (fun x hx => h x (List.mem_cons_of_mem _ hx))
    have e2 := evLine_len (h d (by simp))
    unfold evText at *
    rw [List.map_cons, ended_cons, List.length_append, List.length_cons, List.length_cons]
    omega

end Go.Proofs.YtfleljmmfkkkpaaGreatDoor
