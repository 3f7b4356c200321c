/- Contracts of functions that this seat's laws reach, each: what one call returns and what it leaves in memory; no condition beyond each theorem's own hypotheses. -/
import Derived.Test.YtanioobepfllgaaGreatDoorZqTextData
import Derived.Test.YtanioobepfllgaaGreatDoorZqSpoolData
import Derived.Lib.ItoaLen
set_option linter.unusedVariables false
set_option linter.unusedSimpArgs false
namespace Go.Proofs.YtanioobepfllgaaGreatDoor
open Go Go.RowKit Go.Bl

def drawLine (d : Drw) : List UInt8 := joined [Lib.itoa d.at_, d.spool.data.toList, Lib.itoa d.long]

def drawText (l : List Drw) : List UInt8 := ended (l.map drawLine)
/-- a draw out of words -/
def wordsD : List (List UInt8) → Option Drw
  | [a, b, c] => if b = [] then none else match numK a, numK c with
    | some n, some m => some ⟨n, mkB b, m⟩
    | _, _ => none
  | _ => none

def stepD (st : List Drw) (x : List UInt8) : Option (List Drw) := (wordsD (pieces 32 x)).map fun d => st ++ [d]

def txF (d : List Drw) (k : Nat) : Int := if momO (d.getD k default).at_ then 1 else if keyB (d.getD k default).spool then (if longO (d.getD k default).long then 1 else 0) else 5

def txsF (d : List Drw) : Int := if 5000 < d.length then 2 else scanN (txF d) d.length

def finD (st : List Drw) : List Drw × Int × Int := if txsF st = 0 then (st, 0, 0) else ([], 0, txsF st)

def endD (r : List Drw × Option Nat) : List Drw × Int × Int := match r with
  | (_, some i) => ([], (i : Int), 9)
  | (st, none) => finD st

def readD (s : List UInt8) : List Drw × Int × Int := if 200000 < s.length then (([], 0, 2) : List Drw × Int × Int) else endD (readL stepD [] 0 (linesK s).1 (linesK s).2)

structure TxOk (d : Drw) : Prop where
  at1 : 0 ≤ d.at_ ∧ d.at_ ≤ 345686399999
  key : keyB d.spool = true
  lo1 : -1000000000 ≤ d.long ∧ d.long ≤ 1000000000

end Go.Proofs.YtanioobepfllgaaGreatDoor

namespace Go.Proofs.YtanioobepfllgaaGreatDoor
open Go Go.RowKit Go.Bl

structure Ev where
  at_ : Int
  kind : Int
  pr : ByteArray
  job : ByteArray
  mat : ByteArray
deriving DecidableEq

instance : Inhabited Ev := ⟨⟨0, 0, ⟨#[]⟩, ⟨#[]⟩, ⟨#[]⟩⟩⟩

instance : Enc Ev where
  sz := 5
  rep := fun _ _ p cs => cs = [.int .i64 p.at_, .int .i64 p.kind, .string p.pr, .string p.job, .string p.mat]
  len := by rintro w lo x cs rfl; rfl
  one := by rintro w lo x cs rfl u hu; simp at hu; rcases hu with rfl | rfl | rfl | rfl | rfl <;> rfl
  keep := fun h _ => h
  mono := fun h _ => h

instance : Flat Ev := ⟨fun h => h, by decide⟩

def kwL : List (List UInt8) := [[], [115, 116, 97, 114, 116], [100, 111, 110, 101], [102, 97, 105, 108], [99, 104, 97, 110, 103, 101], [115, 116, 111, 112], [115, 101, 114, 118, 101]]

def kwB : List ByteArray := [⟨#[]⟩, ⟨#[115, 116, 97, 114, 116]⟩, ⟨#[100, 111, 110, 101]⟩, ⟨#[102, 97, 105, 108]⟩, ⟨#[99, 104, 97, 110, 103, 101]⟩, ⟨#[115, 116, 111, 112]⟩, ⟨#[115, 101, 114, 118, 101]⟩]

def kw (k : Int) : List UInt8 := kwL.getD k.toNat []

def xtra (e : Ev) : List UInt8 := e.job.data.toList ++ e.mat.data.toList

def evWords (e : Ev) : List (List UInt8) := [Lib.itoa e.at_, e.pr.data.toList, kw e.kind] ++ (if xtra e = [] then [] else [xtra e])

def evLine (e : Ev) : List UInt8 := joined (evWords e)

def evText (l : List Ev) : List UInt8 := ended (l.map evLine)

def kindO (k : Int) : Bool := outB k 1 6

def formB (e : Ev) : Bool := (!(e.kind == 1) && decide (e.job ≠ ⟨#[]⟩)) || (!(e.kind == 4) && decide (e.mat ≠ ⟨#[]⟩))

def usedB (e : Ev) : Bool := (e.kind == 1 && !keyB e.job) || (e.kind == 4 && !keyB e.mat)

def lateB (l : List Ev) (k : Nat) : Bool := decide (0 < k) && decide ((l.getD k default).at_ < (l.getD (k - 1) default).at_)

def evF (l : List Ev) (k : Nat) : Int :=
  if momO (l.getD k default).at_ then 1 else if kindO (l.getD k default).kind then 4 else if formB (l.getD k default) then 3
  else if !keyB (l.getD k default).pr || usedB (l.getD k default) then 5 else if lateB l k then 7 else 0

def evsF (l : List Ev) : Int := if 5000 < l.length then 2 else scanN (evF l) l.length
/-- the kind of a word; -1: none -/
def kindOf (w : List UInt8) : Int := if w = kw 1 then 1 else if w = kw 2 then 2 else if w = kw 3 then 3 else if w = kw 4 then 4 else if w = kw 5 then 5 else if w = kw 6 then 6 else -1

def wordsE (ps : List (List UInt8)) : Option Ev :=
  if ps.any (·.isEmpty) then none else
  match ps with
  | a :: b :: c :: r => match numK a with
    | none => none
    | some n => if kindO (kindOf c) then none
      else if kindOf c = 1 then (match r with | [x] => some ⟨n, kindOf c, mkB b, mkB x, ⟨#[]⟩⟩ | _ => none)
      else if kindOf c = 4 then (match r with | [x] => some ⟨n, kindOf c, mkB b, ⟨#[]⟩, mkB x⟩ | _ => none)
      else (match r with | [] => some ⟨n, kindOf c, mkB b, ⟨#[]⟩, ⟨#[]⟩⟩ | _ => none)
  | _ => none

def stepE (st : List Ev) (x : List UInt8) : Option (List Ev) := (wordsE (pieces 32 x)).map fun d => st ++ [d]

def finE (st : List Ev) : List Ev × Int × Int := if evsF st = 0 then (st, 0, 0) else ([], 0, evsF st)

def endE (r : List Ev × Option Nat) : List Ev × Int × Int := match r with
  | (_, some i) => ([], (i : Int), 9)
  | (st, none) => finE st

def readE (s : List UInt8) : List Ev × Int × Int := if 200000 < s.length then (([], 0, 2) : List Ev × Int × Int) else endE (readL stepE [] 0 (linesK s).1 (linesK s).2)

structure EvOk (e : Ev) : Prop where
  at1 : 0 ≤ e.at_ ∧ e.at_ ≤ 345686399999
  kd : 1 ≤ e.kind ∧ e.kind ≤ 6
  key : keyB e.pr = true
  j1 : e.kind = 1 → keyB e.job = true
  j0 : e.kind ≠ 1 → e.job = ⟨#[]⟩
  m1 : e.kind = 4 → keyB e.mat = true
  m0 : e.kind ≠ 4 → e.mat = ⟨#[]⟩

theorem evOk_of {e : Ev} (a1 : momO e.at_ = false) (a2 : kindO e.kind = false) (a3 : formB e = false) (a4 : keyB e.pr = true) (a5 : usedB e = false) : EvOk e := by
  unfold formB at a3
  unfold usedB at a5
  simp only [Bool.or_eq_false_iff, Bool.and_eq_false_iff, beq_eq_false_iff_ne, Bool.not_eq_false', beq_iff_eq, decide_eq_false_iff_not, Classical.not_not, ne_eq] at a3 a5
  refine ⟨?_, ?_, a4, fun h => ?_, fun h => ?_, fun h => ?_, fun h => ?_⟩
  · unfold momO outB at a1; simp at a1; omega
  · unfold kindO outB at a2; simp at a2; omega
  · exact a5.1.resolve_left (fun k => k h)
  · exact a3.1.resolve_left h
  · exact a5.2.resolve_left (fun k => k h)
  · exact a3.2.resolve_left h

theorem evF_zero {l : List Ev} {k : Nat} (h : evF l k = 0) : EvOk (l.getD k default) := by
  unfold evF at h
  by_cases a1 : momO (l.getD k default).at_ = true
  · rw [if_pos a1] at h; cases h
  rw [if_neg a1] at h
  by_cases a2 : kindO (l.getD k default).kind = true
  · rw [if_pos a2] at h; cases h
  rw [if_neg a2] at h
  by_cases a3 : formB (l.getD k default) = true
  · rw [if_pos a3] at h; cases h
  rw [if_neg a3] at h
  by_cases a4 : (!keyB (l.getD k default).pr || usedB (l.getD k default)) = true
  · rw [if_pos a4] at h; cases h
  rw [Bool.not_eq_true] at a1 a2 a3 a4
  rw [Bool.or_eq_false_iff, Bool.not_eq_false'] at a4
  exact evOk_of a1 a2 a3 a4.1 a4.2

theorem evsF_zero {l : List Ev} (h : evsF l = 0) : l.length ≤ 5000 ∧ ∀ d ∈ l, EvOk d := by
  unfold evsF at h
  by_cases h1 : 5000 < l.length
  · rw [if_pos h1] at h; cases h
  · rw [if_neg h1] at h
    refine ⟨by omega, fun d hd => ?_⟩
    obtain ⟨k, hk, rfl⟩ := List.getElem_of_mem hd
    have h2 := evF_zero (scanN_all h k hk)
    rwa [show l.getD k default = l[k] by simp [List.getD, hk]] at h2

theorem kw_cases {k : Int} (h : 1 ≤ k ∧ k ≤ 6) : k = 1 ∨ k = 2 ∨ k = 3 ∨ k = 4 ∨ k = 5 ∨ k = 6 := by omega

/-- the words behind the third -/
def restE (e : Ev) : List (List UInt8) := if e.kind = 1 then [e.job.data.toList] else if e.kind = 4 then [e.mat.data.toList] else []

end Go.Proofs.YtanioobepfllgaaGreatDoor

namespace Go.Proofs.YtanioobepfllgaaGreatDoor
open Go Go.RowKit Go.Bl

/-- what a printer does -/
structure Std where
  st : Int
  since : Int
  mat : ByteArray
  job : ByteArray
deriving DecidableEq

def noB : ByteArray := ⟨#[]⟩

def zeroS : Std := ⟨0, 0, noB, noB⟩
/-- what all printers do, where jobs run, which are done, which have failed -/
structure Flr where
  at_ : ByteArray → Option Std
  wh : ByteArray → Option ByteArray
  dn : ByteArray → Option Bool
  fl : ByteArray → Option Bool

def updM {β : Type} (f : ByteArray → Option β) (k : ByteArray) (v : β) : ByteArray → Option β := fun z => if z = k then some v else f z

def delM {β : Type} (f : ByteArray → Option β) (k : ByteArray) : ByteArray → Option β := fun z => if z = k then none else f z

theorem updM_ne {β : Type} {f : ByteArray → Option β} {k z : ByteArray} {v : β} (h : z ≠ k) : updM f k v z = f z := by simp [updM, h]

def Flr.s (F : Flr) (k : ByteArray) : Std := (F.at_ k).getD zeroS
/-- the printer of an event comes to a state -/
def becF (F : Flr) (e : Ev) (state : Int) (job : ByteArray) : Flr :=
  let wh1 := if (F.s e.pr).job = noB then F.wh else delM F.wh (F.s e.pr).job
  ⟨updM F.at_ e.pr ⟨state, e.at_, (F.s e.pr).mat, job⟩, if job = noB then wh1 else updM wh1 job e.pr, F.dn, F.fl⟩
/-- why an event is refused -/
def doE (F : Flr) (e : Ev) : Int :=
  if e.kind = 1 then (if (F.s e.pr).st ≠ 1 then 11 else if (F.wh e.job).isSome || (F.dn e.job).getD false then 6 else 0)
  else if e.kind = 2 ∨ e.kind = 3 then (if (F.s e.pr).st ≠ 2 then 11 else 0)
  else if e.kind = 4 then (if (F.s e.pr).st ≠ 1 then 11 else 0)
  else if e.kind = 5 then (if (F.s e.pr).st = 3 then 11 else 0)
  else if e.kind = 6 then (if (F.s e.pr).st ≠ 3 then 11 else 0) else 0
/-- what an event that is not refused does -/
def goS (F : Flr) (e : Ev) : Flr :=
  if e.kind = 1 then becF F e 2 e.job
  else if e.kind = 2 then becF ⟨F.at_, F.wh, updM F.dn (F.s e.pr).job true, F.fl⟩ e 1 noB
  else if e.kind = 3 then becF ⟨F.at_, F.wh, F.dn, updM F.fl (F.s e.pr).job true⟩ e 1 noB
  else if e.kind = 4 then ⟨updM F.at_ e.pr ⟨(F.s e.pr).st, (F.s e.pr).since, e.mat, (F.s e.pr).job⟩, F.wh, F.dn, F.fl⟩
  else if e.kind = 5 then becF (if (F.s e.pr).st = 2 then ⟨F.at_, F.wh, F.dn, updM F.fl (F.s e.pr).job true⟩ else F) e 3 noB
  else if e.kind = 6 then becF F e 1 noB else F

def doS (F : Flr) (e : Ev) : Flr := if doE F e = 0 then goS F e else F

def newF (p : List Prn) : Flr := ⟨p.foldl (fun f x => updM f x.key ⟨1, 0, x.mat, noB⟩) (fun _ => none), fun _ => none, fun _ => none, fun _ => none⟩

def runS (F : Flr) (l : List Ev) : Flr := l.foldl doS F
/-- how many events come up to a moment -/
def limN (l : List Ev) (at_ : Int) : Nat := (l.takeWhile fun e => decide (e.at_ ≤ at_)).length

def ovl (s t a b : Int) : Int := max 0 (min t b - max s a)
/-- what an event adds to the busy time of a printer -/
def addE (a b : Int) (k : ByteArray) (F : Flr) (e : Ev) : Int := if doE F e = 0 ∧ e.pr = k ∧ (F.s e.pr).st = 2 then ovl (F.s e.pr).since e.at_ a b else 0

def busL (a b : Int) (k : ByteArray) : Flr → List Ev → Int
  | F, [] => if (F.s k).st = 2 then ovl (F.s k).since b a b else 0
  | F, e :: l => addE a b k F e + busL a b k (doS F e) l

theorem becF_s (F : Flr) (e : Ev) (state : Int) (job : ByteArray) (k : ByteArray) : (becF F e state job).s k = if k = e.pr then ⟨state, e.at_, (F.s e.pr).mat, job⟩ else F.s k := by
  unfold becF Flr.s updM
  by_cases h : k = e.pr <;> simp [h]
/-- a printer has a job just if it is busy; it is busy since no later than T -/
structure FlI (F : Flr) (T : Int) : Prop where
  jb : ∀ k, (F.s k).job = noB ↔ (F.s k).st ≠ 2
  sn : ∀ k, (F.s k).since ≤ T
  lo : ∀ k, 0 ≤ (F.s k).since
  wh : ∀ k, (F.s k).st = 2 → F.wh (F.s k).job = some k ∧ F.dn (F.s k).job = none
  dn : ∀ j, F.dn j ≠ some false
  fl : ∀ j, F.fl j ≠ some false
  w0 : F.wh noB = none

theorem key_ne {b : ByteArray} (h : keyB b = true) : b ≠ noB := by
  rintro rfl
  revert h
  decide

theorem doS_go {F : Flr} {e : Ev} (h : doE F e = 0) : doS F e = goS F e := by unfold doS; rw [if_pos h]

theorem doS_no {F : Flr} {e : Ev} (h : doE F e ≠ 0) : doS F e = F := by unfold doS; rw [if_neg h]

theorem FlI.mono {F : Flr} {T U : Int} (h : FlI F T) (hU : T ≤ U) : FlI F U := ⟨h.jb, fun k => by have := h.sn k; omega, h.lo, h.wh, h.dn, h.fl, h.w0⟩

theorem becF_wh (F : Flr) (e : Ev) (state : Int) (job : ByteArray) (j : ByteArray) : (becF F e state job).wh j =
    if job ≠ noB ∧ j = job then some e.pr else if (F.s e.pr).job ≠ noB ∧ j = (F.s e.pr).job then none else F.wh j := by
  unfold becF updM delM
  by_cases h1 : job = noB <;> by_cases h2 : (F.s e.pr).job = noB <;> by_cases h3 : j = job <;> by_cases h4 : j = (F.s e.pr).job <;> simp [*] <;> simp_all

theorem becF_dn (F : Flr) (e : Ev) (state : Int) (job : ByteArray) : (becF F e state job).dn = F.dn := rfl

/-- a printer that comes to rest: its job is nowhere -/
theorem FlI.rest {F : Flr} {T : Int} (h : FlI F T) {e : Ev} (he : EvOk e) (hT : T ≤ e.at_) (state : Int) (hs : state ≠ 2) (G : Flr) (hG : G.at_ = F.at_) (hw : G.wh = F.wh)
    (hdn : ∀ j, G.dn j ≠ some false) (hfl : ∀ j, G.fl j ≠ some false) (hd : ∀ k, k ≠ e.pr → (F.s k).st = 2 → G.dn (F.s k).job = none) : FlI (becF G e state noB) e.at_ := by
  have hGs : ∀ k, G.s k = F.s k := fun k => by unfold Flr.s; rw [hG]
  refine ⟨fun k => ?_, fun k => ?_, fun k => ?_, fun k h2 => ?_, hdn, hfl, ?_⟩
  · rw [becF_s]
    by_cases hk : k = e.pr
    · rw [if_pos hk]; simp [hs]
    · rw [if_neg hk, hGs]; exact h.jb k
  · rw [becF_s]
    by_cases hk : k = e.pr
    · rw [if_pos hk]; exact Int.le_refl _
    · rw [if_neg hk, hGs]; have := h.sn k; omega
  · rw [becF_s]
    by_cases hk : k = e.pr
    · rw [if_pos hk]; exact he.at1.1
    · rw [if_neg hk, hGs]; exact h.lo k
  · rw [becF_s] at h2 ⊢
    by_cases hk : k = e.pr
    · rw [if_pos hk] at h2; exact absurd h2 hs
    · rw [if_neg hk, hGs] at h2 ⊢
      refine ⟨?_, hd k hk h2⟩
      rw [becF_wh, if_neg (by simp), hGs, hw]
      obtain ⟨h3, h4⟩ := h.wh k h2
      rw [if_neg]
      · exact h3
      · rintro ⟨h5, h6⟩
        have h7 : (F.s e.pr).st = 2 := Classical.byContradiction fun hc => h5 ((h.jb e.pr).2 hc)
        have := (h.wh e.pr h7).1
        rw [← h6, h3] at this
        exact hk (Option.some.inj this)
  · rw [becF_wh, if_neg (by simp), hw]
    split
    · rfl
    · exact h.w0

theorem FlI.step {F : Flr} {T : Int} (h : FlI F T) {e : Ev} (he : EvOk e) (hT : T ≤ e.at_) : FlI (doS F e) e.at_ := by
  by_cases h0 : doE F e = 0
  · rw [doS_go h0]
    unfold doE at h0
    unfold goS
    have hup : ∀ (f : ByteArray → Option Bool) (k : ByteArray), (∀ j, f j ≠ some false) → ∀ j, updM f k true j ≠ some false := fun f k hf j => by
      unfold updM
      by_cases hj : j = k
      · rw [if_pos hj]; simp
      · rw [if_neg hj]; exact hf j
    by_cases h1 : e.kind = 1
    · rw [if_pos h1] at h0 ⊢
      have hi : (F.s e.pr).st = 1 := Classical.byContradiction fun hc => by rw [if_pos hc] at h0; cases h0
      rw [if_neg (by simp [hi])] at h0
      have hn : (F.wh e.job).isSome = false ∧ (F.dn e.job).getD false = false := by
        by_cases hx : ((F.wh e.job).isSome || (F.dn e.job).getD false) = true
        · rw [if_pos hx] at h0; cases h0
        · simpa using hx
      have hw : F.wh e.job = none := by simpa using hn.1
      have hd : F.dn e.job = none := by
        rcases hq : F.dn e.job with _ | b
        · rfl
        · rcases b with _ | _
          · exact absurd hq (h.dn e.job)
          · rw [hq] at hn; simp at hn
      have hjn := key_ne (he.j1 h1)
      have hoj : (F.s e.pr).job = noB := (h.jb e.pr).2 (by omega)
      refine ⟨fun k => ?_, fun k => ?_, fun k => ?_, fun k h2 => ?_, h.dn, h.fl, ?_⟩
      · rw [becF_s]
        by_cases hk : k = e.pr
        · rw [if_pos hk]; simp [hjn]
        · rw [if_neg hk]; exact h.jb k
      · rw [becF_s]
        by_cases hk : k = e.pr
        · rw [if_pos hk]; exact Int.le_refl _
        · rw [if_neg hk]; have := h.sn k; omega
      · rw [becF_s]
        by_cases hk : k = e.pr
        · rw [if_pos hk]; exact he.at1.1
        · rw [if_neg hk]; exact h.lo k
      · rw [becF_s] at h2 ⊢
        rw [becF_wh, becF_dn]
        by_cases hk : k = e.pr
        · rw [if_pos hk]
          exact ⟨by rw [if_pos ⟨hjn, rfl⟩, hk], hd⟩
        · rw [if_neg hk] at h2 ⊢
          obtain ⟨h3, h4⟩ := h.wh k h2
          refine ⟨?_, h4⟩
          rw [if_neg, if_neg]
          · exact h3
          · rintro ⟨h5, -⟩; exact h5 hoj
          · rintro ⟨-, h5⟩
            rw [h5, hw] at h3
            cases h3
      · rw [becF_wh, if_neg (fun hx => hjn hx.2.symm)]
        split
        · rfl
        · exact h.w0
    by_cases h2 : e.kind = 2
    · rw [if_neg h1, if_pos h2]
      rw [if_neg h1, if_pos (.inl h2)] at h0
      have hb : (F.s e.pr).st = 2 := Classical.byContradiction fun hc => by rw [if_pos hc] at h0; cases h0
      refine h.rest he hT 1 (by decide) _ rfl rfl (hup _ _ h.dn) h.fl fun k hk h3 => ?_
      obtain ⟨h4, h5⟩ := h.wh k h3
      show updM F.dn (F.s e.pr).job true (F.s k).job = none
      rw [updM_ne, h5]
      intro h6
      rw [h6, (h.wh e.pr hb).1] at h4
      exact hk (Option.some.inj h4).symm
    by_cases h3 : e.kind = 3
    · rw [if_neg h1, if_neg h2, if_pos h3]
      exact h.rest he hT 1 (by decide) _ rfl rfl h.dn (hup _ _ h.fl) fun k hk h3 => (h.wh k h3).2
    by_cases h4 : e.kind = 4
    · rw [if_neg h1, if_neg h2, if_neg h3, if_pos h4]
      have hs : ∀ k, (Flr.s ⟨updM F.at_ e.pr ⟨(F.s e.pr).st, (F.s e.pr).since, e.mat, (F.s e.pr).job⟩, F.wh, F.dn, F.fl⟩ k) = if k = e.pr then ⟨(F.s e.pr).st, (F.s e.pr).since, e.mat, (F.s e.pr).job⟩ else F.s k := fun k => by
        unfold Flr.s updM
        by_cases hk : k = e.pr <;> simp [hk]
      refine ⟨fun k => ?_, fun k => ?_, fun k => ?_, fun k h2 => ?_, h.dn, h.fl, h.w0⟩
      · rw [hs]; split
        · exact h.jb e.pr
        · exact h.jb k
      · rw [hs]; split
        · have := h.sn e.pr; show (F.s e.pr).since ≤ _; omega
        · have := h.sn k; omega
      · rw [hs]; split
        · exact h.lo e.pr
        · exact h.lo k
      · rw [hs] at h2 ⊢
        by_cases hk : k = e.pr
        · rw [if_pos hk] at h2 ⊢; rw [hk]; exact h.wh e.pr h2
        · rw [if_neg hk] at h2 ⊢; exact h.wh k h2
    by_cases h5 : e.kind = 5
    · rw [if_neg h1, if_neg h2, if_neg h3, if_neg h4, if_pos h5]
      by_cases hb : (F.s e.pr).st = 2
      · rw [if_pos hb]
        exact h.rest he hT 3 (by decide) _ rfl rfl h.dn (hup _ _ h.fl) fun k hk h3 => (h.wh k h3).2
      · rw [if_neg hb]
        exact h.rest he hT 3 (by decide) _ rfl rfl h.dn h.fl fun k hk h3 => (h.wh k h3).2
    · rw [if_neg h1, if_neg h2, if_neg h3, if_neg h4, if_neg h5, if_pos (show e.kind = 6 by have := he.kd; omega)]
      exact h.rest he hT 1 (by decide) _ rfl rfl h.dn h.fl fun k hk h3 => (h.wh k h3).2
  · rw [doS_no h0]
    exact h.mono hT

theorem newF_at (p : List Prn) : ∀ (f : ByteArray → Option Std), (∀ k y, f k = some y → y.st = 1 ∧ y.since = 0 ∧ y.job = noB) →
    ∀ k y, (p.foldl (fun f x => updM f x.key ⟨1, 0, x.mat, noB⟩) f) k = some y → y.st = 1 ∧ y.since = 0 ∧ y.job = noB := by
  induction p with
  | nil => intro f h; exact h
  | cons x p ih =>
    intro f h
    refine ih _ fun k y hy => ?_
    change updM f x.key ⟨1, 0, x.mat, noB⟩ k = some y at hy
    unfold updM at hy
    by_cases hk : k = x.key
    · rw [if_pos hk] at hy
      obtain rfl := Option.some.inj hy
      exact ⟨rfl, rfl, rfl⟩
    · rw [if_neg hk] at hy; exact h k y hy

theorem newF_s (p : List Prn) (k : ByteArray) : ((newF p).s k).st ≠ 2 ∧ ((newF p).s k).since = 0 ∧ ((newF p).s k).job = noB := by
  have h := newF_at p (fun _ => none) (fun k y hy => by cases hy) k
  have e : (newF p).s k = ((p.foldl (fun f x => updM f x.key ⟨1, 0, x.mat, noB⟩) (fun _ => none)) k).getD zeroS := rfl
  rw [e]
  generalize (p.foldl (fun f x => updM f x.key (⟨1, 0, x.mat, noB⟩ : Std)) (fun _ => none)) k = o at *
  rcases o with _ | y
  · exact ⟨by decide, rfl, rfl⟩
  · obtain ⟨a, b, c⟩ := h y rfl
    refine ⟨?_, b, c⟩
    show y.st ≠ 2
    omega

theorem FlI.new (p : List Prn) : FlI (newF p) 0 :=
  ⟨fun k => ⟨fun _ => (newF_s p k).1, fun _ => (newF_s p k).2.2⟩, fun k => by rw [(newF_s p k).2.1]; omega, fun k => by rw [(newF_s p k).2.1]; omega, fun k h => absurd h (newF_s p k).1, fun j h => (by cases h), fun j h => (by cases h), rfl⟩

/-- events in order, from a moment on -/
def ordE : Int → List Ev → Prop
  | _, [] => True
  | T, e :: l => T ≤ e.at_ ∧ ordE e.at_ l

theorem ordE.all : ∀ {l : List Ev} {T : Int}, ordE T l → ∀ e ∈ l, T ≤ e.at_
  | [], _, _, e, he => by cases he
  | x :: l, T, h, e, he => by
    rcases List.mem_cons.1 he with rfl | he
    · exact h.1
    · have := ordE.all h.2 e he; have := h.1; omega

/-- events that have been done leave what they should -/
theorem FlI.run : ∀ {l : List Ev} {F : Flr} {T : Int}, FlI F T → ordE T l → (∀ e ∈ l, EvOk e) → ∃ U, FlI (runS F l) U
  | [], F, T, hF, _, _ => ⟨T, hF⟩
  | e :: l, F, T, hF, ho, hl => by
    have he := hl e (List.mem_cons_self ..)
    have ih := FlI.run (l := l) (F := doS F e) (hF.step he ho.1) ho.2 fun x hx => hl x (List.mem_cons_of_mem _ hx)
    exact ih

/-- the events that are not refused -/
def goodL : Flr → List Ev → List Ev
  | _, [] => []
  | F, e :: l => if doE F e = 0 then e :: goodL (doS F e) l else goodL (doS F e) l
/-- the refused ones: their indices, from i on -/
def badL : Flr → List Ev → Nat → List Nat
  | _, [], _ => []
  | F, e :: l, i => if doE F e = 0 then badL (doS F e) l (i + 1) else i :: badL (doS F e) l (i + 1)

def whyL : Flr → List Ev → List Int
  | _, [] => []
  | F, e :: l => if doE F e = 0 then whyL (doS F e) l else doE F e :: whyL (doS F e) l

theorem bad_why : ∀ (l : List Ev) (F : Flr) (i : Nat), (badL F l i).length = (whyL F l).length
  | [], _, _ => rfl
  | e :: l, F, i => by
    unfold badL whyL
    split
    · exact bad_why l _ _
    · simp [bad_why l (doS F e) (i + 1)]

/-- the jobs that are done, in order -/
def dnL : Flr → List Ev → List ByteArray
  | _, [] => []
  | F, e :: l => (if doE F e = 0 ∧ e.kind = 2 then [(F.s e.pr).job] else []) ++ dnL (doS F e) l

end Go.Proofs.YtanioobepfllgaaGreatDoor

namespace Go.Proofs.YtanioobepfllgaaGreatDoor
open Go Go.RowKit Go.Bl

def accL (a b : Int) (k : ByteArray) : Flr → List Ev → Int
  | _, [] => 0
  | F, e :: l => addE a b k F e + accL a b k (doS F e) l

theorem runS_take : ∀ {l : List Ev} {F : Flr} {j : Nat} (h : j < l.length), runS F (l.take (j + 1)) = doS (runS F (l.take j)) l[j]
  | e :: l, F, 0, _ => rfl
  | e :: l, F, j + 1, h => runS_take (l := l) (F := doS F e) (j := j) (by simpa using h)

theorem badL_take : ∀ {l : List Ev} {F : Flr} {i j : Nat} (h : j < l.length), badL F (l.take (j + 1)) i = badL F (l.take j) i ++ (if doE (runS F (l.take j)) l[j] = 0 then [] else [i + j])
  | e :: l, F, i, 0, _ => by
    show (if doE F e = 0 then badL (doS F e) [] (i + 1) else i :: badL (doS F e) [] (i + 1)) = [] ++ (if doE F e = 0 then [] else [i + 0])
    rfl
  | e :: l, F, i, j + 1, h => by
    have hj : j < l.length := by simpa using h
    have ih := badL_take (l := l) (F := doS F e) (i := i + 1) (j := j) hj
    show (if doE F e = 0 then badL (doS F e) (l.take (j + 1)) (i + 1) else i :: badL (doS F e) (l.take (j + 1)) (i + 1)) = (if doE F e = 0 then badL (doS F e) (l.take j) (i + 1) else i :: badL (doS F e) (l.take j) (i + 1)) ++ (if doE (runS (doS F e) (l.take j)) l[j] = 0 then [] else [i + (j + 1)])
    rw [ih, show i + 1 + j = i + (j + 1) by omega]
    by_cases h0 : doE F e = 0
    · rw [if_pos h0, if_pos h0]
    · rw [if_neg h0, if_neg h0]; rfl

theorem whyL_take : ∀ {l : List Ev} {F : Flr} {j : Nat} (h : j < l.length), whyL F (l.take (j + 1)) = whyL F (l.take j) ++ (if doE (runS F (l.take j)) l[j] = 0 then [] else [doE (runS F (l.take j)) l[j]])
  | e :: l, F, 0, _ => by
    show (if doE F e = 0 then whyL (doS F e) [] else doE F e :: whyL (doS F e) []) = [] ++ (if doE F e = 0 then [] else [doE F e])
    rfl
  | e :: l, F, j + 1, h => by
    have hj : j < l.length := by simpa using h
    have ih := whyL_take (l := l) (F := doS F e) (j := j) hj
    show (if doE F e = 0 then whyL (doS F e) (l.take (j + 1)) else doE F e :: whyL (doS F e) (l.take (j + 1))) = (if doE F e = 0 then whyL (doS F e) (l.take j) else doE F e :: whyL (doS F e) (l.take j)) ++ (if doE (runS (doS F e) (l.take j)) l[j] = 0 then [] else [doE (runS (doS F e) (l.take j)) l[j]])
    rw [ih]
    by_cases h0 : doE F e = 0
    · rw [if_pos h0, if_pos h0]
    · rw [if_neg h0, if_neg h0]; rfl

theorem badL_len : ∀ (l : List Ev) (F : Flr) (i : Nat), (badL F l i).length ≤ l.length
  | [], _, _ => Nat.le_refl _
  | e :: l, F, i => by
    have ih := badL_len l (doS F e) (i + 1)
    unfold badL
    split
    · simp; omega
    · simp; omega

theorem limN_le (l : List Ev) (a : Int) : limN l a ≤ l.length := by
  induction l with
  | nil => exact Nat.le_refl _
  | cons e l ih =>
    unfold limN at *
    rw [List.takeWhile_cons]
    by_cases h : e.at_ ≤ a
    · simp [h]; exact ih
    · simp [h]

theorem limN_lt : ∀ {l : List Ev} {a : Int} {j : Nat} (h : j < l.length), j < limN l a → l[j].at_ ≤ a
  | e :: l, a, j, h, hj => by
    unfold limN at hj
    rw [List.takeWhile_cons] at hj
    by_cases h1 : e.at_ ≤ a
    · cases j with
      | zero => exact h1
      | succ j =>
        simp [h1] at hj
        exact limN_lt (l := l) (a := a) (j := j) (by simpa using h) hj
    · simp [h1] at hj

theorem limN_end : ∀ {l : List Ev} {a : Int} (h : limN l a < l.length), ¬ l[limN l a].at_ ≤ a
  | [], a, h => by cases h
  | e :: l, a, h => by
    by_cases h1 : e.at_ ≤ a
    · have hn : limN (e :: l) a = limN l a + 1 := by unfold limN; rw [List.takeWhile_cons]; simp [h1]
      simp only [hn, List.getElem_cons_succ]
      exact limN_end (l := l) (a := a) (by rw [hn] at h; simpa using h)
    · have hn : limN (e :: l) a = 0 := by unfold limN; rw [List.takeWhile_cons]; simp [h1]
      simp only [hn, List.getElem_cons_zero]
      exact h1

theorem limN_all : ∀ {l : List Ev} {a : Int}, (∀ e ∈ l, e.at_ ≤ a) → limN l a = l.length
  | [], _, _ => rfl
  | e :: l, a, h => by
    have hn : limN (e :: l) a = limN l a + 1 := by unfold limN; rw [List.takeWhile_cons]; simp [h e (List.mem_cons_self ..)]
    rw [hn, limN_all fun x hx => h x (List.mem_cons_of_mem _ hx)]
    rfl

end Go.Proofs.YtanioobepfllgaaGreatDoor
