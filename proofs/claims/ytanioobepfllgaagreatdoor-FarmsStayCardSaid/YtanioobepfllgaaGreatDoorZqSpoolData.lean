/- Contracts of functions that this seat's laws reach, each: what one call returns and what it leaves in memory; no condition beyond each theorem's own hypotheses. -/
import Derived.Test.YtanioobepfllgaaGreatDoorZqDelData
import Derived.Lib.SlTrimSet
import Derived.Lib.Bytealg
set_option linter.unusedVariables false
set_option linter.unusedSimpArgs false
namespace Go.Bl
open Go

instance : Enc ByteArray where
  sz := 1
  rep := fun _ _ x cs => cs = [.string x]
  len := by rintro w lo x cs rfl; rfl
  one := by rintro w lo x cs rfl u hu; simp at hu; subst hu; rfl
  keep := fun h _ => h
  mono := fun h _ => h

instance : Flat ByteArray := ⟨fun h => h, by decide⟩

structure Prn where
  key : ByteArray
  mat : ByteArray
deriving DecidableEq

instance : Inhabited Prn := ⟨⟨ByteArray.empty, ByteArray.empty⟩⟩

structure Jb where
  key : ByteArray
  mat : ByteArray
  min : Int
  due : Int
deriving DecidableEq

instance : Inhabited Jb := ⟨⟨ByteArray.empty, ByteArray.empty, 0, 0⟩⟩

instance : Enc Prn where
  sz := 2
  rep := fun _ _ p cs => cs = [.string p.key, .string p.mat]
  len := by rintro w lo x cs rfl; rfl
  one := by rintro w lo x cs rfl u hu; simp at hu; rcases hu with rfl | rfl <;> rfl
  keep := fun h _ => h
  mono := fun h _ => h

instance : Flat Prn := ⟨fun h => h, by decide⟩

instance : Enc Jb where
  sz := 4
  rep := fun _ _ p cs => cs = [.string p.key, .string p.mat, .int .i64 p.min, .int .i64 p.due]
  len := by rintro w lo x cs rfl; rfl
  one := by rintro w lo x cs rfl u hu; simp at hu; rcases hu with rfl | rfl | rfl | rfl <;> rfl
  keep := fun h _ => h
  mono := fun h _ => h

instance : Flat Jb := ⟨fun h => h, by decide⟩

def smallB : List UInt8 := [97, 98, 99, 100, 101, 102, 103, 104, 105, 106, 107, 108, 109, 110, 111, 112, 113, 114, 115, 116, 117, 118, 119, 120, 121, 122]

def keyL : List UInt8 := smallB ++ [48, 49, 50, 51, 52, 53, 54, 55, 56, 57, 45, 95]
/-- what a key is -/
def keyB (s : ByteArray) : Bool := decide (0 < s.size) && decide (s.size ≤ 40) && decide (0 ≤ Lib.indexByte smallB (s.data.toList.headD 0)) && (Lib.trimS s.data.toList keyL).isEmpty
/-- the first fault of a row of tests -/
def scanN (f : Nat → Int) : Nat → Int
  | 0 => 0
  | n + 1 => if scanN f n = 0 then f n else scanN f n

theorem scanN_at {f : Nat → Int} {k : Nat} (h : scanN f k = 0) (hf : f k ≠ 0) : ∀ {n : Nat}, k < n → scanN f n = f k
  | 0, hk => by omega
  | n + 1, hk => by
    by_cases e : k = n
    · subst e; simp [scanN, h]
    · have := scanN_at h hf (show k < n by omega)
      simp [scanN, this, hf]

theorem scanN_ok {f : Nat → Int} {k : Nat} (h : scanN f k = 0) (hf : f k = 0) : scanN f (k + 1) = 0 := by simp [scanN, h, hf]

def leS (a b : ByteArray) : Bool := Op.bytesLess a.toList b.toList || (a.toList == b.toList)

def prnF (l : List Prn) (k : Nat) : Int :=
  if keyB (l.getD k default).key && keyB (l.getD k default).mat then (if decide (0 < k) && leS (l.getD k default).key (l.getD (k - 1) default).key then 7 else 0) else 5

def prnsF (l : List Prn) : Int := if l.length = 0 then 8 else if 50 < l.length then 2 else scanN (prnF l) l.length

def jbF (l : List Jb) (k : Nat) : Int :=
  if keyB (l.getD k default).key && keyB (l.getD k default).mat then
    (if outB (l.getD k default).min 1 100000 || outB (l.getD k default).due 0 1000000000 then 1
     else if decide (0 < k) && leS (l.getD k default).key (l.getD (k - 1) default).key then 7 else 0) else 5

def jbsF (l : List Jb) : Int := if 500 < l.length then 2 else scanN (jbF l) l.length

def farmF (p : List Prn) (j : List Jb) : Int := if prnsF p = 0 then jbsF j else prnsF p

end Go.Bl

namespace Go.Bl
open Go

/-! ### the order of strings -/

theorem u8_tri (a b : UInt8) : a < b ∨ a = b ∨ b < a := by
  rcases Nat.lt_trichotomy a.toNat b.toNat with h | h | h
  · exact .inl (UInt8.lt_iff_toNat_lt.2 h)
  · exact .inr (.inl (UInt8.toNat_inj.1 h))
  · exact .inr (.inr (UInt8.lt_iff_toNat_lt.2 h))

theorem u8_irr {a b : UInt8} (h : a < b) : ¬ b < a ∧ a ≠ b := by
  have h1 := UInt8.lt_iff_toNat_lt.1 h
  refine ⟨fun h2 => ?_, fun e => ?_⟩
  · have := UInt8.lt_iff_toNat_lt.1 h2; omega
  · subst e; omega

theorem u8_trans {a b c : UInt8} (h : a < b) (k : b < c) : a < c :=
  UInt8.lt_iff_toNat_lt.2 (Nat.lt_trans (UInt8.lt_iff_toNat_lt.1 h) (UInt8.lt_iff_toNat_lt.1 k))

theorem u8_nirr (a : UInt8) : ¬ a < a := fun h => (u8_irr h).2 rfl

theorem cmpB_neg : ∀ (x y : List UInt8), Lib.compareBytes y x = -(Lib.compareBytes x y)
  | [], [] => rfl
  | [], _ :: _ => rfl
  | _ :: _, [] => rfl
  | a :: x, b :: y => by
    unfold Lib.compareBytes
    rcases u8_tri a b with h | h | h
    · rw [if_neg (u8_irr h).1, if_pos h, if_pos h]; rfl
    · subst h
      rw [if_neg (u8_nirr a), if_neg (u8_nirr a), if_neg (u8_nirr a), if_neg (u8_nirr a)]; exact cmpB_neg x y
    · rw [if_pos h, if_neg (u8_irr h).1, if_pos h]

theorem cmpB_val : ∀ (x y : List UInt8), Lib.compareBytes x y = -1 ∨ Lib.compareBytes x y = 0 ∨ Lib.compareBytes x y = 1
  | [], [] => .inr (.inl rfl)
  | [], _ :: _ => .inl rfl
  | _ :: _, [] => .inr (.inr rfl)
  | a :: x, b :: y => by
    unfold Lib.compareBytes
    by_cases h1 : a < b
    · rw [if_pos h1]; exact .inl rfl
    · rw [if_neg h1]
      by_cases h2 : b < a
      · rw [if_pos h2]; exact .inr (.inr rfl)
      · rw [if_neg h2]; exact cmpB_val x y

theorem cmpB_zero : ∀ {x y : List UInt8}, Lib.compareBytes x y = 0 ↔ x = y
  | [], [] => by simp [Lib.compareBytes]
  | [], _ :: _ => by simp [Lib.compareBytes]
  | _ :: _, [] => by simp [Lib.compareBytes]
  | a :: x, b :: y => by
    unfold Lib.compareBytes
    rcases u8_tri a b with h | h | h
    · rw [if_pos h]
      simp only [List.cons.injEq]
      exact ⟨fun e => (by cases e), fun e => absurd e.1 (u8_irr h).2⟩
    · subst h
      rw [if_neg (u8_nirr a), if_neg (u8_nirr a), cmpB_zero]; simp
    · rw [if_neg (u8_irr h).1, if_pos h]
      simp only [List.cons.injEq]
      exact ⟨fun e => (by cases e), fun e => absurd e.1.symm (u8_irr h).2⟩

theorem cmpB_trans : ∀ {x y z : List UInt8}, Lib.compareBytes x y = -1 → Lib.compareBytes y z = -1 → Lib.compareBytes x z = -1
  | [], [], z, h, _ => by cases h
  | [], _ :: _, [], _, k => by cases k
  | [], _ :: _, _ :: _, _, _ => rfl
  | _ :: _, [], _, h, _ => by cases h
  | _ :: _, _ :: _, [], _, k => by cases k
  | a :: x, b :: y, c :: z, h, k => by
    unfold Lib.compareBytes at h k ⊢
    rcases u8_tri a b with h1 | h1 | h1
    · rcases u8_tri b c with k1 | k1 | k1
      · rw [if_pos (u8_trans h1 k1)]
      · subst k1; rw [if_pos h1]
      · rw [if_neg (u8_irr k1).1, if_pos k1] at k; cases k
    · subst h1
      rw [if_neg (u8_nirr a), if_neg (u8_nirr a)] at h
      by_cases k1 : a < c
      · rw [if_pos k1]
      · rw [if_neg k1] at k ⊢
        by_cases k2 : c < a
        · rw [if_pos k2] at k; cases k
        · rw [if_neg k2] at k ⊢; exact cmpB_trans h k
    · rw [if_neg (u8_irr h1).1, if_pos h1] at h; cases h

theorem cmpB_cons (a b : UInt8) (x y : List UInt8) : Lib.compareBytes (a :: x) (b :: y) = if a < b then -1 else if b < a then 1 else Lib.compareBytes x y := rfl

theorem less_cmpB : ∀ (x y : List UInt8), Op.bytesLess x y = decide (Lib.compareBytes x y = -1)
  | [], [] => by simp [Op.bytesLess, Lib.compareBytes]
  | [], _ :: _ => by simp [Op.bytesLess, Lib.compareBytes]
  | _ :: _, [] => by simp [Op.bytesLess, Lib.compareBytes]
  | a :: x, b :: y => by
    rw [Op.bytesLess, less_cmpB x y, cmpB_cons]
    rcases u8_tri a b with h | h | h
    · simp [h]
    · subst h; simp [u8_nirr]
    · simp [h, (u8_irr h).1, (u8_irr h).2.symm]

def cmpK (a b : ByteArray) : Int := Lib.compareBytes a.data.toList b.data.toList

theorem cmpK_zero {a b : ByteArray} : cmpK a b = 0 ↔ a = b := by
  unfold cmpK
  rw [cmpB_zero]
  constructor
  · intro h; cases a; cases b; simp only [ByteArray.mk.injEq]; exact Array.toList_inj.1 h
  · rintro rfl; rfl

theorem cmpK_neg (a b : ByteArray) : cmpK b a = -(cmpK a b) := cmpB_neg _ _

theorem cmpK_val (a b : ByteArray) : cmpK a b = -1 ∨ cmpK a b = 0 ∨ cmpK a b = 1 := cmpB_val _ _

theorem cmpK_trans {a b c : ByteArray} (h : cmpK a b = -1) (k : cmpK b c = -1) : cmpK a c = -1 := cmpB_trans h k

theorem leS_no {a b : ByteArray} (h : leS b a = false) : cmpK a b = -1 := by
  unfold leS at h
  rw [Bool.or_eq_false_iff] at h
  obtain ⟨h1, h2⟩ := h
  rw [less_cmpB, Lib.toList_data, Lib.toList_data] at h1
  rw [Lib.toList_data, Lib.toList_data] at h2
  have h3 : cmpK b a ≠ -1 := by unfold cmpK; simpa using h1
  have h4 : cmpK b a ≠ 0 := fun e => by
    rw [cmpK_zero] at e
    subst e
    simp at h2
  rcases cmpK_val b a with h | h | h
  · exact absurd h h3
  · exact absurd h h4
  · rw [cmpK_neg, h]

structure Spl where
  key : ByteArray
  mat : ByteArray
  left : Int
deriving DecidableEq

instance : Inhabited Spl := ⟨⟨ByteArray.empty, ByteArray.empty, 0⟩⟩

structure Drw where
  at_ : Int
  spool : ByteArray
  long : Int
deriving DecidableEq

instance : Inhabited Drw := ⟨⟨0, ByteArray.empty, 0⟩⟩

instance : Enc Spl where
  sz := 3
  rep := fun _ _ p cs => cs = [.string p.key, .string p.mat, .int .i64 p.left]
  len := by rintro w lo x cs rfl; rfl
  one := by rintro w lo x cs rfl u hu; simp at hu; rcases hu with rfl | rfl | rfl <;> rfl
  keep := fun h _ => h
  mono := fun h _ => h

instance : Flat Spl := ⟨fun h => h, by decide⟩

instance : Enc Drw where
  sz := 3
  rep := fun _ _ p cs => cs = [.int .i64 p.at_, .string p.spool, .int .i64 p.long]
  len := by rintro w lo x cs rfl; rfl
  one := by rintro w lo x cs rfl u hu; simp at hu; rcases hu with rfl | rfl | rfl <;> rfl
  keep := fun h _ => h
  mono := fun h _ => h

instance : Flat Drw := ⟨fun h => h, by decide⟩

def splF (l : List Spl) (k : Nat) : Int :=
  if keyB (l.getD k default).key && keyB (l.getD k default).mat then
    (if outB (l.getD k default).left 0 1000000000 then 1
     else if decide (0 < k) && leS (l.getD k default).key (l.getD (k - 1) default).key then 7 else 0) else 5

def splsF (l : List Spl) : Int := if 50 < l.length then 2 else scanN (splF l) l.length

def hasS (s : List Spl) (key : ByteArray) : Bool := s.any fun x => decide (x.key = key)

def idxS (s : List Spl) (key : ByteArray) : Nat := s.findIdx fun x => decide (x.key = key)

def momO (n : Int) : Bool := outB n 0 345686399999

def longO (n : Int) : Bool := (n == 0) || outB n (-1000000000) 1000000000

def drwF (s : List Spl) (d : List Drw) (k : Nat) : Int :=
  if momO (d.getD k default).at_ then 1 else if hasS s (d.getD k default).spool then
    (if longO (d.getD k default).long then 1 else if decide (0 < k) && decide ((d.getD k default).at_ < (d.getD (k - 1) default).at_) then 7 else 0) else 8

def drwsF (s : List Spl) (d : List Drw) : Int := if splsF s ≠ 0 then splsF s else if 5000 < d.length then 2 else scanN (drwF s d) d.length

theorem scanN_all {f : Nat → Int} : ∀ {n : Nat}, scanN f n = 0 → ∀ k, k < n → f k = 0
  | 0, _, k, hk => by omega
  | n + 1, h, k, hk => by
    unfold scanN at h
    by_cases h0 : scanN f n = 0
    · rw [if_pos h0] at h
      by_cases e : k = n
      · subst e; exact h
      · exact scanN_all h0 k (by omega)
    · rw [if_neg h0] at h; exact absurd h h0

/-! ### what the draws leave -/

def stepW (s : List Spl) (a : List Int × List Int) (i : Nat) (x : Drw) : List Int × List Int :=
  if outB (a.1.getD (idxS s x.spool) 0 - x.long) 0 1000000000 then (a.1, a.2 ++ [(i : Int)]) else (a.1.set (idxS s x.spool) (a.1.getD (idxS s x.spool) 0 - x.long), a.2)

def follW (s : List Spl) (d : List Drw) : Nat → List Int × List Int
  | 0 => (s.map Spl.left, [])
  | k + 1 => stepW s (follW s d k) k (d.getD k default)

/-- what is drawn by those that are not refused, among the first k -/
def drawnK (bad : List Int) (d : List Drw) : Nat → Int
  | 0 => 0
  | k + 1 => drawnK bad d k + (if (k : Int) ∈ bad then 0 else (d.getD k default).long)

end Go.Bl
