/- Contracts of functions that this seat's laws reach, each: what one call returns and what it leaves in memory; no condition beyond each theorem's own hypotheses. -/
import Derived.Test.YtejmbaiioblfeaaGreatDoorZqKit3
import Derived.Lib.SlTrimSet
import Derived.Lib.Bytealg
set_option linter.unusedVariables false
set_option linter.unusedSimpArgs false
namespace Go.Bl
open Go

instance : Enc ByteArray where
  sz := 1
  rep := fun _ _ x cs => cs = [.string x]
  len := by rintro w lo x cs rfl; rfl
  one := by rintro w lo x cs rfl u hu; simp at hu; subst hu; rfl
  keep := fun h _ => h
  mono := fun h _ => h

instance : Flat ByteArray := ⟨fun h => h, by decide⟩

structure Prn where
  key : ByteArray
  mat : ByteArray
deriving DecidableEq

instance : Inhabited Prn := ⟨⟨ByteArray.empty, ByteArray.empty⟩⟩

structure Jb where
  key : ByteArray
  mat : ByteArray
  min : Int
  due : Int
deriving DecidableEq

instance : Inhabited Jb := ⟨⟨ByteArray.empty, ByteArray.empty, 0, 0⟩⟩

instance : Enc Prn where
  sz := 2
  rep := fun _ _ p cs => cs = [.string p.key, .string p.mat]
  len := by rintro w lo x cs rfl; rfl
  one := by rintro w lo x cs rfl u hu; simp at hu; rcases hu with rfl | rfl <;> rfl
  keep := fun h _ => h
  mono := fun h _ => h

instance : Flat Prn := ⟨fun h => h, by decide⟩

instance : Enc Jb where
  sz := 4
  rep := fun _ _ p cs => cs = [.string p.key, .string p.mat, .int .i64 p.min, .int .i64 p.due]
  len := by rintro w lo x cs rfl; rfl
  one := by rintro w lo x cs rfl u hu; simp at hu; rcases hu with rfl | rfl | rfl | rfl <;> rfl
  keep := fun h _ => h
  mono := fun h _ => h

instance : Flat Jb := ⟨fun h => h, by decide⟩

def smallB : List UInt8 := [97, 98, 99, 100, 101, 102, 103, 104, 105, 106, 107, 108, 109, 110, 111, 112, 113, 114, 115, 116, 117, 118, 119, 120, 121, 122]

def keyL : List UInt8 := smallB ++ [48, 49, 50, 51, 52, 53, 54, 55, 56, 57, 45, 95]
/-- what a key is -/
def keyB (s : ByteArray) : Bool := decide (0 < s.size) && decide (s.size ≤ 40) && decide (0 ≤ Lib.indexByte smallB (s.data.toList.headD 0)) && (Lib.trimS s.data.toList keyL).isEmpty
/-- the first fault of a row of tests -/
def scanN (f : Nat → Int) : Nat → Int
  | 0 => 0
  | n + 1 => if scanN f n = 0 then f n else scanN f n

theorem scanN_at {f : Nat → Int} {k : Nat} (h : scanN f k = 0) (hf : f k ≠ 0) : ∀ {n : Nat}, k < n → scanN f n = f k
  | 0, hk => by omega
  | n + 1, hk => by
    by_cases e : k = n
    · subst e; simp [scanN, h]
    · have := scanN_at h hf (show k < n by omega)
      simp [scanN, this, hf]

theorem scanN_ok {f : Nat → Int} {k : Nat} (h : scanN f k = 0) (hf : f k = 0) : scanN f (k + 1) = 0 := by simp [scanN, h, hf]

def leS (a b : ByteArray) : Bool := Op.bytesLess a.toList b.toList || (a.toList == b.toList)

def prnF (l : List Prn) (k : Nat) : Int :=
  if keyB (l.getD k default).key && keyB (l.getD k default).mat then (if decide (0 < k) && leS (l.getD k default).key (l.getD (k - 1) default).key then 7 else 0) else 5

def prnsF (l : List Prn) : Int := if l.length = 0 then 8 else if 50 < l.length then 2 else scanN (prnF l) l.length

def jbF (l : List Jb) (k : Nat) : Int :=
  if keyB (l.getD k default).key && keyB (l.getD k default).mat then
    (if outB (l.getD k default).min 1 100000 || outB (l.getD k default).due 0 1000000000 then 1
     else if decide (0 < k) && leS (l.getD k default).key (l.getD (k - 1) default).key then 7 else 0) else 5

def jbsF (l : List Jb) : Int := if 500 < l.length then 2 else scanN (jbF l) l.length

def farmF (p : List Prn) (j : List Jb) : Int := if prnsF p = 0 then jbsF j else prnsF p

end Go.Bl
