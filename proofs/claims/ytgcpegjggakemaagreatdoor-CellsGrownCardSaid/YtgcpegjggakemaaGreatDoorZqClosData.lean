/- Contracts of functions that this seat's laws reach, each: what one call returns and what it leaves in memory; no condition beyond each theorem's own hypotheses. -/
import Derived.Test.YtgcpegjggakemaaGreatDoorZqKit3
import Derived.Lib.SlTrimSet
import Derived.Lib.Bytealg
set_option linter.unusedVariables false
set_option linter.unusedSimpArgs false
namespace Go.Bl
open Go

instance : Enc ByteArray where
  sz := 1
  rep := fun _ _ x cs => cs = [.string x]
  len := by rintro w lo x cs rfl; rfl
  one := by rintro w lo x cs rfl u hu; simp at hu; subst hu; rfl
  keep := fun h _ => h
  mono := fun h _ => h

instance : Flat ByteArray := ⟨fun h => h, by decide⟩

structure Prn where
  key : ByteArray
  mat : ByteArray
deriving DecidableEq

instance : Inhabited Prn := ⟨⟨ByteArray.empty, ByteArray.empty⟩⟩

structure Jb where
  key : ByteArray
  mat : ByteArray
  min : Int
  due : Int
deriving DecidableEq

instance : Inhabited Jb := ⟨⟨ByteArray.empty, ByteArray.empty, 0, 0⟩⟩

instance : Enc Prn where
  sz := 2
  rep := fun _ _ p cs => cs = [.string p.key, .string p.mat]
  len := by rintro w lo x cs rfl; rfl
  one := by rintro w lo x cs rfl u hu; simp at hu; rcases hu with rfl | rfl <;> rfl
  keep := fun h _ => h
  mono := fun h _ => h

instance : Flat Prn := ⟨fun h => h, by decide⟩

instance : Enc Jb where
  sz := 4
  rep := fun _ _ p cs => cs = [.string p.key, .string p.mat, .int .i64 p.min, .int .i64 p.due]
  len := by rintro w lo x cs rfl; rfl
  one := by rintro w lo x cs rfl u hu; simp at hu; rcases hu with rfl | rfl | rfl | rfl <;> rfl
  keep := fun h _ => h
  mono := fun h _ => h

instance : Flat Jb := ⟨fun h => h, by decide⟩

def smallB : List UInt8 := [97, 98, 99, 100, 101, 102, 103, 104, 105, 106, 107, 108, 109, 110, 111, 112, 113, 114, 115, 116, 117, 118, 119, 120, 121, 122]

def keyL : List UInt8 := smallB ++ [48, 49, 50, 51, 52, 53, 54, 55, 56, 57, 45, 95]
/-- what a key is -/
def keyB (s : ByteArray) : Bool := decide (0 < s.size) && decide (s.size ≤ 40) && decide (0 ≤ Lib.indexByte smallB (s.data.toList.headD 0)) && (Lib.trimS s.data.toList keyL).isEmpty
/-- the first fault of a row of tests -/
def scanN (f : Nat → Int) : Nat → Int
  | 0 => 0
  | n + 1 => if scanN f n = 0 then f n else scanN f n

theorem scanN_at {f : Nat → Int} {k : Nat} (h : scanN f k = 0) (hf : f k ≠ 0) : ∀ {n : Nat}, k < n → scanN f n = f k
  | 0, hk => by omega
  | n + 1, hk => by
    by_cases e : k = n
    · subst e; simp [scanN, h]
    · have := scanN_at h hf (show k < n by omega)
      simp [scanN, this, hf]

theorem scanN_ok {f : Nat → Int} {k : Nat} (h : scanN f k = 0) (hf : f k = 0) : scanN f (k + 1) = 0 := by simp [scanN, h, hf]

def leS (a b : ByteArray) : Bool := Op.bytesLess a.toList b.toList || (a.toList == b.toList)

def prnF (l : List Prn) (k : Nat) : Int :=
  if keyB (l.getD k default).key && keyB (l.getD k default).mat then (if decide (0 < k) && leS (l.getD k default).key (l.getD (k - 1) default).key then 7 else 0) else 5

def prnsF (l : List Prn) : Int := if l.length = 0 then 8 else if 50 < l.length then 2 else scanN (prnF l) l.length

def jbF (l : List Jb) (k : Nat) : Int :=
  if keyB (l.getD k default).key && keyB (l.getD k default).mat then
    (if outB (l.getD k default).min 1 100000 || outB (l.getD k default).due 0 1000000000 then 1
     else if decide (0 < k) && leS (l.getD k default).key (l.getD (k - 1) default).key then 7 else 0) else 5

def jbsF (l : List Jb) : Int := if 500 < l.length then 2 else scanN (jbF l) l.length

def farmF (p : List Prn) (j : List Jb) : Int := if prnsF p = 0 then jbsF j else prnsF p

end Go.Bl

namespace Go.Bl
open Go

structure Cel where
  step : Int
  x : Int
  y : Int
  rows : List ByteArray

instance : Inhabited Cel := ⟨⟨0, 0, 0, []⟩⟩

theorem Cel.ext' {c d : Cel} (h1 : c.step = d.step) (h2 : c.x = d.x) (h3 : c.y = d.y) (h4 : c.rows = d.rows) : c = d := by cases c; cases d; simp_all

def byt (s : ByteArray) (i : Nat) : UInt8 := s.data.toList.getD i 0

def bit (rows : List ByteArray) (j i : Nat) : Bool := byt (rows.getD j ByteArray.empty) i == 35

def stepB (n : Int) : Bool := outB n 2 10000 || !(n.tmod 2 == 0)

def wideR (rows : List ByteArray) : Nat := (rows.getD 0 ByteArray.empty).size

def okR (s : ByteArray) : Bool := s.data.toList.all fun b => b == 35 || b == 46

def rowF (rows : List ByteArray) (k : Nat) : Int :=
  if (rows.getD k ByteArray.empty).size = wideR rows then (if okR (rows.getD k ByteArray.empty) then 0 else 9) else 3

def tightB (rows : List ByteArray) : Bool :=
  (List.range (wideR rows)).any (bit rows 0) && (List.range (wideR rows)).any (bit rows (rows.length - 1)) &&
  ((List.range rows.length).any (fun j => bit rows j 0) && (List.range rows.length).any (fun j => bit rows j (wideR rows - 1)))

def multB (n d : Int) : Bool := n.tmod d == 0
/-- what is wrong with cells -/
def cellsF (c : Cel) : Int :=
  if stepB c.step then 1 else if c.rows.length = 0 then (if c.x = 0 ∧ c.y = 0 then 0 else 3)
  else if 200 < c.rows.length then 2
  else if scanN (rowF c.rows) c.rows.length ≠ 0 then scanN (rowF c.rows) c.rows.length
  else if 200 < wideR c.rows then 2
  else if outB c.x (-2000000) 2000000 || outB c.y (-2000000) 2000000 then 1
  else if multB c.x c.step && multB c.y c.step && tightB c.rows then 0 else 3
/-- the cells that are covered -/
def onC (c : Cel) (x y : Int) : Bool :=
  decide (0 ≤ x - c.x / c.step) && decide (0 ≤ y - c.y / c.step) && bit c.rows (y - c.y / c.step).toNat (x - c.x / c.step).toNat

theorem byt_out {s : ByteArray} {i : Nat} (h : s.size ≤ i) : byt s i = 0 := by
  have : s.data.toList.length ≤ i := by rw [Array.length_toList]; exact h
  simp [byt, List.getD_eq_getElem?_getD, List.getElem?_eq_none this]

theorem bit_row {rows : List ByteArray} {j i : Nat} (h : rows.length ≤ j) : bit rows j i = false := by
  have : (rows.getD j ByteArray.empty) = ByteArray.empty := by simp [List.getD_eq_getElem?_getD, List.getElem?_eq_none h]
  rw [bit, this, byt_out (by simp)]; rfl

theorem bit_col {rows : List ByteArray} {j i : Nat} (h : (rows.getD j ByteArray.empty).size ≤ i) : bit rows j i = false := by
  rw [bit, byt_out h]; rfl

/-- the least columns and rows that hold all cells -/
structure Box4 (S : Int → Int → Bool) (x0 y0 x1 y1 : Int) : Prop where
  in_ : ∀ x y, S x y = true → x0 ≤ x ∧ x ≤ x1 ∧ y0 ≤ y ∧ y ≤ y1
  l : ∃ y, S x0 y = true
  r : ∃ y, S x1 y = true
  b : ∃ x, S x y0 = true
  t : ∃ x, S x y1 = true

theorem Box4.uniq {S : Int → Int → Bool} {x0 y0 x1 y1 u0 v0 u1 v1 : Int} (h : Box4 S x0 y0 x1 y1) (k : Box4 S u0 v0 u1 v1) : x0 = u0 ∧ y0 = v0 ∧ x1 = u1 ∧ y1 = v1 := by
  obtain ⟨a1, h1⟩ := h.l; obtain ⟨a2, h2⟩ := h.r; obtain ⟨a3, h3⟩ := h.b; obtain ⟨a4, h4⟩ := h.t
  obtain ⟨b1, k1⟩ := k.l; obtain ⟨b2, k2⟩ := k.r; obtain ⟨b3, k3⟩ := k.b; obtain ⟨b4, k4⟩ := k.t
  have := k.in_ _ _ h1; have := k.in_ _ _ h2; have := k.in_ _ _ h3; have := k.in_ _ _ h4
  have := h.in_ _ _ k1; have := h.in_ _ _ k2; have := h.in_ _ _ k3; have := h.in_ _ _ k4
  omega

theorem Box4.le {S : Int → Int → Bool} {x0 y0 x1 y1 : Int} (h : Box4 S x0 y0 x1 y1) : x0 ≤ x1 ∧ y0 ≤ y1 := by
  obtain ⟨a1, h1⟩ := h.l
  have := h.in_ _ _ h1; omega

def rowB (S : Int → Int → Bool) (x0 y : Int) (n : Nat) : ByteArray := ⟨((List.range n).map fun (i : Nat) => if S (x0 + i) y then (35 : UInt8) else 46).toArray⟩

def rowsB (S : Int → Int → Bool) (x0 y0 : Int) (n m : Nat) : List ByteArray := (List.range m).map fun (j : Nat) => rowB S x0 (y0 + j) n

def mkC (step : Int) (S : Int → Int → Bool) (x0 y0 x1 y1 : Int) : Cel := ⟨step, x0 * step, y0 * step, rowsB S x0 y0 (x1 - x0 + 1).toNat (y1 - y0 + 1).toNat⟩

theorem rowB_size {S : Int → Int → Bool} {x0 y : Int} {n : Nat} : (rowB S x0 y n).size = n := by
  show ((List.range n).map _).toArray.size = n
  simp

theorem rowB_byt {S : Int → Int → Bool} {x0 y : Int} {n i : Nat} (h : i < n) : byt (rowB S x0 y n) i = if S (x0 + i) y then 35 else 46 := by
  simp only [byt, rowB]
  simp [List.getD_eq_getElem?_getD, h]

theorem rowB_ok {S : Int → Int → Bool} {x0 y : Int} {n : Nat} : okR (rowB S x0 y n) = true := by
  simp only [okR, rowB, List.all_eq_true]
  intro b hb
  simp at hb
  obtain ⟨i, _, rfl⟩ := hb
  split <;> rfl

theorem rowsB_len {S : Int → Int → Bool} {x0 y0 : Int} {n m : Nat} : (rowsB S x0 y0 n m).length = m := by simp [rowsB]

theorem rowsB_at {S : Int → Int → Bool} {x0 y0 : Int} {n m j : Nat} (h : j < m) : (rowsB S x0 y0 n m).getD j ByteArray.empty = rowB S x0 (y0 + j) n := by
  simp [rowsB, List.getD_eq_getElem?_getD, h]

theorem rowsB_bit {S : Int → Int → Bool} {x0 y0 : Int} {n m j i : Nat} (hj : j < m) (hi : i < n) : bit (rowsB S x0 y0 n m) j i = S (x0 + i) (y0 + j) := by
  rw [bit, rowsB_at hj, rowB_byt hi]
  cases S (x0 + i) (y0 + j) <;> rfl

theorem bytes_ext {s t : ByteArray} (h : s.data.toList = t.data.toList) : s = t := by
  cases s with | mk a => cases t with | mk b => cases a; cases b; simp at h; rw [h]

theorem rows_back {rows : List ByteArray} {n : Nat} (hn : ∀ j, j < rows.length → (rows.getD j ByteArray.empty).size = n ∧ okR (rows.getD j ByteArray.empty) = true)
    {S : Int → Int → Bool} {x0 y0 : Int} (hS : ∀ j i, j < rows.length → i < n → S (x0 + (i : Nat)) (y0 + (j : Nat)) = bit rows j i) : rowsB S x0 y0 n rows.length = rows := by
  refine List.ext_getElem (by rw [rowsB_len]) fun j h1 h2 => ?_
  have e1 := rowsB_at (S := S) (x0 := x0) (y0 := y0) (n := n) h2
  have e2 : (rowsB S x0 y0 n rows.length).getD j ByteArray.empty = (rowsB S x0 y0 n rows.length)[j] := by rw [List.getD_eq_getElem?_getD, List.getElem?_eq_getElem h1]; rfl
  rw [← e2, e1]
  have e3 : rows.getD j ByteArray.empty = rows[j] := by rw [List.getD_eq_getElem?_getD, List.getElem?_eq_getElem h2]; rfl
  obtain ⟨hz, ho⟩ := hn j h2
  rw [e3] at hz ho
  have hlen : rows[j].data.toList.length = n := by rw [Array.length_toList]; exact hz
  refine bytes_ext (List.ext_getElem ?_ fun i h3 h4 => ?_)
  · rw [hlen]; simp [rowB]
  · have hi : i < n := by rw [← hlen]; exact h4
    have e4 := rowB_byt (S := S) (x0 := x0) (y := y0 + (j : Nat)) hi
    have e5 : byt (rowB S x0 (y0 + (j : Nat)) n) i = (rowB S x0 (y0 + (j : Nat)) n).data.toList[i] := by rw [byt, List.getD_eq_getElem?_getD, List.getElem?_eq_getElem h3]; rfl
    rw [← e5, e4, hS j i h2 hi, bit, e3]
    have e6 : byt rows[j] i = rows[j].data.toList[i] := by rw [byt, List.getD_eq_getElem?_getD, List.getElem?_eq_getElem h4]; rfl
    rw [e6]
    simp only [okR, List.all_eq_true] at ho
    have ho' := ho _ (List.getElem_mem h4)
    simp only [Bool.or_eq_true, beq_iff_eq] at ho'
    rcases ho' with h | h <;> rw [h] <;> rfl

theorem scan_zero {f : Nat → Int} : ∀ {n : Nat}, scanN f n = 0 ↔ ∀ k, k < n → f k = 0
  | 0 => by simp [scanN]
  | n + 1 => by
    rw [scanN]
    constructor
    · intro h k hk
      by_cases h0 : scanN f n = 0
      · rw [if_pos h0] at h
        by_cases e : k = n
        · rw [e]; exact h
        · exact scan_zero.1 h0 k (by omega)
      · rw [if_neg h0] at h; exact absurd h h0
    · intro h
      rw [if_pos (scan_zero.2 fun k hk => h k (by omega))]
      exact h n (by omega)

/-- what right cells are -/
structure CellsOk (c : Cel) : Prop where
  step : stepB c.step = false
  nil : c.rows.length = 0 → c.x = 0 ∧ c.y = 0
  many : c.rows.length ≤ 200
  row : ∀ j, j < c.rows.length → (c.rows.getD j ByteArray.empty).size = wideR c.rows ∧ okR (c.rows.getD j ByteArray.empty) = true
  wide : wideR c.rows ≤ 200
  x : c.rows.length ≠ 0 → outB c.x (-2000000) 2000000 = false
  y : c.rows.length ≠ 0 → outB c.y (-2000000) 2000000 = false
  mx : multB c.x c.step = true
  my : multB c.y c.step = true
  tight : c.rows.length ≠ 0 → tightB c.rows = true

theorem cells_ok {c : Cel} : cellsF c = 0 ↔ CellsOk c := by
  constructor
  · intro h
    unfold cellsF at h
    by_cases h1 : stepB c.step = true
    · simp [h1] at h
    rw [if_neg h1] at h
    replace h1 : stepB c.step = false := by simpa using h1
    by_cases h2 : c.rows.length = 0
    · rw [if_pos h2] at h
      have hxy : c.x = 0 ∧ c.y = 0 := by
        by_cases h3 : c.x = 0 ∧ c.y = 0
        · exact h3
        · simp [h3] at h
      have hw : wideR c.rows = 0 := by
        have : c.rows = [] := List.eq_nil_of_length_eq_zero h2
        rw [this]; rfl
      exact ⟨h1, fun _ => hxy, by omega, fun j hj => by omega, by omega, fun h => absurd h2 h, fun h => absurd h2 h, by simp [multB, hxy.1], by simp [multB, hxy.2], fun h => absurd h2 h⟩
    rw [if_neg h2] at h
    by_cases h3 : 200 < c.rows.length
    · simp [h3] at h
    rw [if_neg h3] at h
    by_cases h4 : scanN (rowF c.rows) c.rows.length = 0
    · rw [if_neg (by simp [h4])] at h
      by_cases h5 : 200 < wideR c.rows
      · simp [h5] at h
      rw [if_neg h5] at h
      by_cases h6 : (outB c.x (-2000000) 2000000 || outB c.y (-2000000) 2000000) = true
      · simp [h6] at h
      rw [if_neg h6] at h
      simp only [Bool.or_eq_true, not_or, Bool.not_eq_true] at h6
      by_cases h7 : (multB c.x c.step && multB c.y c.step && tightB c.rows) = true
      · simp only [Bool.and_eq_true] at h7
        refine ⟨h1, fun h => absurd h h2, by omega, fun j hj => ?_, by omega, fun _ => h6.1, fun _ => h6.2, h7.1.1, h7.1.2, fun _ => h7.2⟩
        have := scan_zero.1 h4 j hj
        unfold rowF at this
        by_cases h8 : (c.rows.getD j ByteArray.empty).size = wideR c.rows
        · rw [if_pos h8] at this
          by_cases h9 : okR (c.rows.getD j ByteArray.empty) = true
          · exact ⟨h8, h9⟩
          · rw [if_neg h9] at this; cases this
        · rw [if_neg h8] at this; cases this
      · simp [h7] at h
    · rw [if_pos h4] at h; exact absurd h h4
  · intro h
    unfold cellsF
    rw [if_neg (by simp [h.step])]
    by_cases h2 : c.rows.length = 0
    · rw [if_pos h2, if_pos (h.nil h2)]
    have h4 : scanN (rowF c.rows) c.rows.length = 0 := scan_zero.2 fun j hj => by rw [rowF, if_pos (h.row j hj).1, if_pos (h.row j hj).2]
    rw [if_neg h2, if_neg (by have := h.many; omega), if_neg (by simp [h4]), if_neg (by have := h.wide; omega), if_neg (by simp [h.x h2, h.y h2]), if_pos (by simp [h.mx, h.my, h.tight h2])]

theorem step_pos {n : Int} (h : stepB n = false) : 2 ≤ n ∧ n ≤ 10000 := by
  simp only [stepB, outB, Bool.or_eq_false_iff] at h
  obtain ⟨h, -⟩ := h
  simp at h
  omega

theorem mult_mul {n d : Int} (h : multB n d = true) : (n / d) * d = n := by
  simp only [multB, beq_iff_eq] at h
  exact Int.ediv_mul_cancel (Int.dvd_of_tmod_eq_zero h)

theorem mult_of {n d : Int} : multB (n * d) d = true := by
  simp [multB]

/-- right cells with rows: the box -/
theorem right_box {c : Cel} (h : CellsOk c) (hr : c.rows.length ≠ 0) :
    Box4 (onC c) (c.x / c.step) (c.y / c.step) (c.x / c.step + (wideR c.rows - 1 : Nat)) (c.y / c.step + (c.rows.length - 1 : Nat)) := by
  have ht := h.tight hr
  unfold tightB at ht
  simp only [Bool.and_eq_true, List.any_eq_true, List.mem_range] at ht
  obtain ⟨⟨⟨i0, hi0, b0⟩, ⟨i1, hi1, b1⟩⟩, ⟨j0, hj0, b2⟩, ⟨j1, hj1, b3⟩⟩ := ht
  have hon : ∀ (i j : Nat), bit c.rows j i = true → onC c (c.x / c.step + i) (c.y / c.step + j) = true := fun i j hb => by
    have e1 : c.x / c.step + (i : Int) - c.x / c.step = i := by omega
    have e2 : c.y / c.step + (j : Int) - c.y / c.step = j := by omega
    simp [onC, e1, e2, hb]
  refine ⟨fun x y hxy => ?_, ⟨c.y / c.step + j0, ?_⟩, ⟨c.y / c.step + j1, hon _ _ b3⟩, ⟨c.x / c.step + i0, ?_⟩, ⟨c.x / c.step + i1, hon _ _ b1⟩⟩
  · simp only [onC, Bool.and_eq_true, decide_eq_true_eq] at hxy
    obtain ⟨⟨h1, h2⟩, h3⟩ := hxy
    have hj : (y - c.y / c.step).toNat < c.rows.length := by
      apply Nat.lt_of_not_le
      intro hc
      rw [bit_row hc] at h3; cases h3
    have hi : (x - c.x / c.step).toNat < wideR c.rows := by
      rw [← (h.row _ hj).1]
      apply Nat.lt_of_not_le
      intro hc
      rw [bit_col hc] at h3; cases h3
    omega
  · simpa using hon _ _ b2
  · simpa using hon _ _ b0

theorem right_mk {c : Cel} (h : CellsOk c) (hr : c.rows.length ≠ 0) :
    mkC c.step (onC c) (c.x / c.step) (c.y / c.step) (c.x / c.step + (wideR c.rows - 1 : Nat)) (c.y / c.step + (c.rows.length - 1 : Nat)) = c := by
  have hw : 0 < wideR c.rows := by
    have ht := h.tight hr
    unfold tightB at ht
    simp only [Bool.and_eq_true, List.any_eq_true, List.mem_range] at ht
    obtain ⟨⟨⟨i0, hi0, b0⟩, -⟩, -⟩ := ht
    omega
  refine Cel.ext' rfl (mult_mul h.mx) (mult_mul h.my) ?_
  have e1 : (c.x / c.step + (wideR c.rows - 1 : Nat) - c.x / c.step + 1).toNat = wideR c.rows := by omega
  have e2 : (c.y / c.step + (c.rows.length - 1 : Nat) - c.y / c.step + 1).toNat = c.rows.length := by omega
  simp only [mkC]
  rw [e1, e2]
  refine rows_back h.row fun j i hj hi => ?_
  have e1 : c.x / c.step + (i : Int) - c.x / c.step = i := by omega
  have e2 : c.y / c.step + (j : Int) - c.y / c.step = j := by omega
  simp [onC, e1, e2]

/-- the cells of a set, or what is wrong with them -/
def IsCells (step : Int) (S : Int → Int → Bool) (c : Cel) (e : Int) : Prop :=
  ((∀ x y, S x y = false) ∧ c = ⟨step, 0, 0, []⟩ ∧ e = 0) ∨
  ∃ x0 y0 x1 y1, Box4 S x0 y0 x1 y1 ∧ ((199 < x1 - x0 ∨ 199 < y1 - y0) ∧ c = ⟨0, 0, 0, []⟩ ∧ e = 12 ∨
    ¬ (199 < x1 - x0 ∨ 199 < y1 - y0) ∧ (cellsF (mkC step S x0 y0 x1 y1) = 0 ∧ c = mkC step S x0 y0 x1 y1 ∧ e = 0 ∨
      cellsF (mkC step S x0 y0 x1 y1) ≠ 0 ∧ c = ⟨0, 0, 0, []⟩ ∧ e = cellsF (mkC step S x0 y0 x1 y1)))
variable {step : Int} {S T : Int → Int → Bool} {c d : Cel} {e f : Int}

theorem Box4.no {x0 y0 x1 y1 : Int} (h : Box4 S x0 y0 x1 y1) (hn : ∀ x y, S x y = false) : False := by
  obtain ⟨y, hy⟩ := h.l
  rw [hn] at hy; cases hy

theorem IsCells.uniq (h : IsCells step S c e) (k : IsCells step S d f) : c = d ∧ e = f := by
  rcases h with ⟨h1, rfl, rfl⟩ | ⟨x0, y0, x1, y1, hb, h⟩
  · rcases k with ⟨_, rfl, rfl⟩ | ⟨_, _, _, _, kb, _⟩
    · exact ⟨rfl, rfl⟩
    · exact (kb.no h1).elim
  · rcases k with ⟨k1, _, _⟩ | ⟨_, _, _, _, kb, k⟩
    · exact (hb.no k1).elim
    · obtain ⟨rfl, rfl, rfl, rfl⟩ := hb.uniq kb
      rcases h with ⟨h1, rfl, rfl⟩ | ⟨h1, h⟩
      · rcases k with ⟨_, rfl, rfl⟩ | ⟨k1, _⟩
        · exact ⟨rfl, rfl⟩
        · exact absurd h1 k1
      · rcases k with ⟨k1, _, _⟩ | ⟨_, k⟩
        · exact absurd k1 h1
        · rcases h with ⟨h2, rfl, rfl⟩ | ⟨h2, rfl, rfl⟩ <;> rcases k with ⟨k2, rfl, rfl⟩ | ⟨k2, rfl, rfl⟩
          · exact ⟨rfl, rfl⟩
          · exact absurd h2 k2
          · exact absurd k2 h2
          · exact ⟨rfl, rfl⟩

theorem IsCells.congr (h : IsCells step S c e) (hS : ∀ x y, S x y = T x y) : IsCells step T c e := by
  have : S = T := funext fun x => funext fun y => hS x y
  rw [← this]; exact h

theorem IsCells.right (h : CellsOk c) : IsCells c.step (onC c) c 0 := by
  by_cases hr : c.rows.length = 0
  · have hn : c.rows = [] := List.eq_nil_of_length_eq_zero hr
    refine .inl ⟨fun x y => ?_, Cel.ext' rfl (h.nil hr).1 (h.nil hr).2 hn, rfl⟩
    have : bit c.rows (y - c.y / c.step).toNat (x - c.x / c.step).toNat = false := bit_row (by omega)
    simp [onC, this]
  · refine .inr ⟨_, _, _, _, right_box h hr, .inr ⟨?_, .inl ⟨?_, (right_mk h hr).symm, rfl⟩⟩⟩
    · have := h.many; have := h.wide; omega
    · rw [right_mk h hr]; exact cells_ok.2 h

theorem mk_on {x0 y0 x1 y1 : Int} (hb : Box4 S x0 y0 x1 y1) (hs : step ≠ 0) (x y : Int) : onC (mkC step S x0 y0 x1 y1) x y = S x y := by
  have e1 : x0 * step / step = x0 := Int.mul_ediv_cancel _ hs
  have e2 : y0 * step / step = y0 := Int.mul_ediv_cancel _ hs
  simp only [onC, mkC, e1, e2]
  rcases hS : S x y with _ | _
  · by_cases h1 : 0 ≤ x - x0 ∧ 0 ≤ y - y0 ∧ x ≤ x1 ∧ y ≤ y1
    · have e3 : x0 + ((x - x0).toNat : Int) = x := by omega
      have e4 : y0 + ((y - y0).toNat : Int) = y := by omega
      rw [rowsB_bit (by omega) (by omega), e3, e4, hS]; simp
    · by_cases h2 : 0 ≤ x - x0 ∧ 0 ≤ y - y0
      · have : bit (rowsB S x0 y0 (x1 - x0 + 1).toNat (y1 - y0 + 1).toNat) (y - y0).toNat (x - x0).toNat = false := by
          by_cases h3 : y ≤ y1
          · refine bit_col ?_
            rw [rowsB_at (by omega), rowB_size]; omega
          · exact bit_row (by rw [rowsB_len]; omega)
        rw [this]; simp
      · have : (decide (0 ≤ x - x0) && decide (0 ≤ y - y0)) = false := by
          rw [Bool.and_eq_false_iff, decide_eq_false_iff_not, decide_eq_false_iff_not]; omega
        rw [this]; rfl
  · have := hb.in_ x y hS
    have e3 : x0 + ((x - x0).toNat : Int) = x := by omega
    have e4 : y0 + ((y - y0).toNat : Int) = y := by omega
    rw [rowsB_bit (by omega) (by omega), e3, e4, hS]
    simp; omega

theorem IsCells.back (h : IsCells step S c 0) (hs : stepB step = false) : CellsOk c ∧ c.step = step ∧ ∀ x y, onC c x y = S x y := by
  have hp := step_pos hs
  rcases h with ⟨h1, rfl, -⟩ | ⟨x0, y0, x1, y1, hb, h⟩
  · refine ⟨⟨hs, fun _ => ⟨rfl, rfl⟩, by simp, by simp, by simp [wideR], by simp, by simp, by simp [multB], by simp [multB], by simp⟩, rfl, fun x y => ?_⟩
    rw [h1]
    simp [onC, bit_row]
  · rcases h with ⟨-, -, h⟩ | ⟨-, ⟨h2, rfl, -⟩ | ⟨h2, -, h3⟩⟩
    · cases h
    · exact ⟨cells_ok.1 h2, rfl, mk_on hb (by omega)⟩
    · exact absurd h3.symm h2
end Go.Bl

namespace Go.Bl
open Go

structure Grd where
  step : Int
  x : Int
  y : Int
  wide : Nat
  high : Nat
  on : List Bool

structure Grd.Ok (G : Grd) : Prop where
  s : 2 ≤ G.step ∧ G.step ≤ 10000
  x : -10000000 ≤ G.x ∧ G.x ≤ 10000000
  y : -10000000 ≤ G.y ∧ G.y ≤ 10000000
  w : G.wide ≤ 1000
  h : G.high ≤ 1000
  n : G.on.length = G.wide * G.high

def Grd.cx (G : Grd) (k : Nat) : Int := G.x + (k % G.wide : Nat)

def Grd.cy (G : Grd) (k : Nat) : Int := G.y + (k / G.wide : Nat)

def Grd.ix (G : Grd) (x y : Int) : Nat := (y - G.y).toNat * G.wide + (x - G.x).toNat

def Grd.In (G : Grd) (x y : Int) : Prop := G.x ≤ x ∧ x < G.x + G.wide ∧ G.y ≤ y ∧ y < G.y + G.high

instance (G : Grd) (x y : Int) : Decidable (G.In x y) := by unfold Grd.In; infer_instance

def Grd.at (G : Grd) (x y : Int) : Bool := decide (G.In x y) && G.on.getD (G.ix x y) false

def Grd.put (G : Grd) (x y : Int) : Grd := { G with on := G.on.set (G.ix x y) true }

def Grd.none (step x y : Int) (wide high : Nat) : Grd := ⟨step, x, y, wide, high, List.replicate (wide * high) false⟩

theorem ix_lt {a b W H : Nat} (ha : a < W) (hb : b < H) : b * W + a < W * H := by
  have h1 : (b + 1) * W ≤ H * W := Nat.mul_le_mul_right _ hb
  rw [Nat.add_mul, Nat.one_mul] at h1
  rw [Nat.mul_comm W H]; omega

theorem ix_bd {W H : Nat} (hw : W ≤ 1000) (hh : H ≤ 1000) : W * H ≤ 1000000 := by
  have := Nat.mul_le_mul hw hh; omega
variable {G : Grd} {x y u v : Int} {k : Nat}

theorem Grd.Ok.ix_lt (h : G.Ok) (hi : G.In x y) : G.ix x y < G.on.length := by
  rw [h.n, Grd.ix]
  unfold Grd.In at hi
  exact Bl.ix_lt (by omega) (by omega)

theorem Grd.ix_inj (hi : G.In x y) (hj : G.In u v) (he : G.ix x y = G.ix u v) : x = u ∧ y = v := by
  unfold Grd.In at hi hj
  unfold Grd.ix at he
  generalize ha : (x - G.x).toNat = a at he
  generalize hb : (y - G.y).toNat = b at he
  generalize hc : (u - G.x).toNat = c at he
  generalize hd : (v - G.y).toNat = d at he
  have h1 : a < G.wide := by omega
  have h2 : c < G.wide := by omega
  have hac : a = c := by
    have e1 : (b * G.wide + a) % G.wide = a := by rw [Nat.mul_comm, Nat.mul_add_mod]; exact Nat.mod_eq_of_lt h1
    have e2 : (d * G.wide + c) % G.wide = c := by rw [Nat.mul_comm, Nat.mul_add_mod]; exact Nat.mod_eq_of_lt h2
    rw [← e1, he, e2]
  have hbd : b = d := by
    have e1 : (b * G.wide + a) / G.wide = b := by rw [Nat.mul_comm, Nat.mul_add_div (by omega), Nat.div_eq_of_lt h1]; omega
    have e2 : (d * G.wide + c) / G.wide = d := by rw [Nat.mul_comm, Nat.mul_add_div (by omega), Nat.div_eq_of_lt h2]; omega
    rw [← e1, he, e2]
  omega

theorem Grd.Ok.in_of (h : G.Ok) (hk : k < G.on.length) : G.In (G.cx k) (G.cy k) ∧ G.ix (G.cx k) (G.cy k) = k := by
  rw [h.n] at hk
  have hw : 0 < G.wide := by
    apply Nat.pos_of_ne_zero; intro e; rw [e] at hk; simp at hk
  have h1 : k % G.wide < G.wide := Nat.mod_lt _ hw
  have h2 : k / G.wide < G.high := Nat.div_lt_of_lt_mul hk
  have h3 := Nat.div_add_mod k G.wide
  unfold Grd.ix Grd.In Grd.cx Grd.cy
  generalize k % G.wide = a at *
  generalize k / G.wide = b at *
  refine ⟨by omega, ?_⟩
  have e1 : (G.y + (b : Int) - G.y).toNat = b := by omega
  have e2 : (G.x + (a : Int) - G.x).toNat = a := by omega
  rw [e1, e2, Nat.mul_comm]; exact h3

theorem Grd.Ok.at_ix (h : G.Ok) (hk : k < G.on.length) : G.at (G.cx k) (G.cy k) = G.on.getD k false := by
  obtain ⟨h1, h2⟩ := h.in_of hk
  rw [Grd.at, h2]; simp [h1]

theorem Grd.Ok.at_iff (h : G.Ok) : G.at x y = true ↔ ∃ k, k < G.on.length ∧ G.on.getD k false = true ∧ x = G.cx k ∧ y = G.cy k := by
  constructor
  · intro ha
    simp only [Grd.at, Bool.and_eq_true, decide_eq_true_eq] at ha
    have hl := h.ix_lt ha.1
    obtain ⟨h1, h2⟩ := h.in_of hl
    obtain ⟨e1, e2⟩ := Grd.ix_inj ha.1 h1 h2.symm
    exact ⟨_, hl, ha.2, e1, e2⟩
  · rintro ⟨k, hk, ho, rfl, rfl⟩
    rw [h.at_ix hk]; exact ho

theorem Grd.at_in (h : G.at x y = true) : G.In x y := by
  simp only [Grd.at, Bool.and_eq_true, decide_eq_true_eq] at h; exact h.1

theorem Grd.Ok.put (h : G.Ok) : (G.put x y).Ok := ⟨h.s, h.x, h.y, h.w, h.h, by simp [Grd.put, h.n]⟩

theorem Grd.Ok.put_at (h : G.Ok) (hi : G.In x y) : (G.put x y).at u v = (G.at u v || decide (u = x ∧ v = y)) := by
  have hl := h.ix_lt hi
  have e0 : (G.put x y).In u v ↔ G.In u v := Iff.rfl
  have e1 : (G.put x y).ix u v = G.ix u v := rfl
  simp only [Grd.at, e1]
  have e2 : decide ((G.put x y).In u v) = decide (G.In u v) := rfl
  rw [e2]
  by_cases hj : G.In u v
  · by_cases he : G.ix x y = G.ix u v
    · obtain ⟨rfl, rfl⟩ := Grd.ix_inj hi hj he
      simp [Grd.put, hj, hl]
    · have hne : ¬ (u = x ∧ v = y) := by rintro ⟨rfl, rfl⟩; exact he rfl
      simp [Grd.put, hj, hne, List.getElem?_set_ne he]
  · have hne : ¬ (u = x ∧ v = y) := by rintro ⟨rfl, rfl⟩; exact hj hi
    simp [hj, hne]

theorem Grd.none_at {step x y : Int} {wide high : Nat} : (Grd.none step x y wide high).at u v = false := by
  simp only [Grd.at, Grd.none, Bool.and_eq_false_iff]
  right
  rw [List.getD_eq_getElem?_getD, List.getElem?_replicate]
  split <;> rfl
/-- the grid of right cells -/
def gridOf (c : Cel) : Grd := ⟨c.step, c.x / c.step, c.y / c.step, wideR c.rows, c.rows.length, (List.range (wideR c.rows * c.rows.length)).map fun k => bit c.rows (k / wideR c.rows) (k % wideR c.rows)⟩

theorem div_bd {a d m : Int} (hd : 2 ≤ d) (h1 : -m ≤ a) (h2 : a ≤ m) (hm : 0 ≤ m) : -m ≤ a / d ∧ a / d ≤ m := by
  refine ⟨Int.le_ediv_of_mul_le (by omega) ?_, Int.ediv_le_of_le_mul (by omega) ?_⟩
  · have : -m * d ≤ -m * 1 := Int.mul_le_mul_of_nonpos_left (by omega) (by omega)
    omega
  · have : m * 1 ≤ m * d := Int.mul_le_mul_of_nonneg_left (by omega) hm
    omega

theorem gridOf_ok {c : Cel} (h : CellsOk c) : (gridOf c).Ok := by
  have hs := step_pos h.step
  have hx : -2000000 ≤ c.x ∧ c.x ≤ 2000000 := by
    by_cases hr : c.rows.length = 0
    · have := (h.nil hr).1; omega
    · have := h.x hr; simp [outB] at this; omega
  have hy : -2000000 ≤ c.y ∧ c.y ≤ 2000000 := by
    by_cases hr : c.rows.length = 0
    · have := (h.nil hr).2; omega
    · have := h.y hr; simp [outB] at this; omega
  have d1 := div_bd hs.1 hx.1 hx.2 (by omega)
  have d2 := div_bd hs.1 hy.1 hy.2 (by omega)
  have := h.many; have := h.wide
  refine ⟨hs, ⟨?_, ?_⟩, ⟨?_, ?_⟩, ?_, ?_, by simp [gridOf]⟩ <;> simp only [gridOf] <;> omega

theorem gridOf_at {c : Cel} (h : CellsOk c) : (gridOf c).at x y = onC c x y := by
  have hok := gridOf_ok h
  by_cases hi : (gridOf c).In x y
  · have hl := hok.ix_lt hi
    have e : (gridOf c).on.getD ((gridOf c).ix x y) false = bit c.rows ((gridOf c).ix x y / wideR c.rows) ((gridOf c).ix x y % wideR c.rows) := by
      rw [List.getD_eq_getElem?_getD, List.getElem?_eq_getElem hl]
      simp [gridOf]
    simp only [Grd.at, e]
    obtain ⟨h1, h2, h3, h4⟩ := hi
    have w1 : (gridOf c).x = c.x / c.step := rfl
    have w2 : (gridOf c).y = c.y / c.step := rfl
    have w3 : (gridOf c).wide = wideR c.rows := rfl
    have w4 : (gridOf c).high = c.rows.length := rfl
    rw [w1, w3] at h2; rw [w1] at h1; rw [w2] at h3; rw [w2, w4] at h4
    have hx : (x - c.x / c.step).toNat < wideR c.rows := by omega
    have e1 : (gridOf c).ix x y / wideR c.rows = (y - c.y / c.step).toNat := by
      rw [Grd.ix, w1, w2, w3, Nat.mul_comm, Nat.mul_add_div (by omega), Nat.div_eq_of_lt hx]; omega
    have e2 : (gridOf c).ix x y % wideR c.rows = (x - c.x / c.step).toNat := by
      rw [Grd.ix, w1, w2, w3, Nat.mul_comm, Nat.mul_add_mod]; exact Nat.mod_eq_of_lt hx
    have hin : (gridOf c).In x y := ⟨by rw [w1]; exact h1, by rw [w1, w3]; exact h2, by rw [w2]; exact h3, by rw [w2, w4]; exact h4⟩
    rw [e1, e2, onC, decide_eq_true hin, decide_eq_true (show 0 ≤ x - c.x / c.step by omega), decide_eq_true (show 0 ≤ y - c.y / c.step by omega)]
    rfl
  · rw [Grd.at, decide_eq_false hi]
    rcases ho : onC c x y with _ | _
    · rfl
    · exfalso
      have hr : c.rows.length ≠ 0 := by
        intro e
        have hb : bit c.rows (y - c.y / c.step).toNat (x - c.x / c.step).toNat = false := bit_row (by rw [e]; exact Nat.zero_le _)
        rw [onC, hb, Bool.and_false] at ho; cases ho
      have := (right_box h hr).in_ x y ho
      have hw : 0 < wideR c.rows := by
        have ht := h.tight hr
        unfold tightB at ht
        simp only [Bool.and_eq_true, List.any_eq_true, List.mem_range] at ht
        obtain ⟨⟨⟨i0, hi0, b0⟩, -⟩, -⟩ := ht
        omega
      apply hi
      show c.x / c.step ≤ x ∧ x < c.x / c.step + (wideR c.rows : Int) ∧ c.y / c.step ≤ y ∧ y < c.y / c.step + (c.rows.length : Int)
      omega

end Go.Bl

namespace Go.Bl
open Go

def Grd.upto (G : Grd) (k : Nat) (x y : Int) : Bool := G.at x y && decide (G.ix x y < k)

theorem Grd.upto_zero (G : Grd) (x y : Int) : G.upto 0 x y = false := by simp [Grd.upto]

theorem Grd.at_lt {G : Grd} (h : G.Ok) {x y : Int} (ha : G.at x y = true) : G.ix x y < G.on.length := h.ix_lt (Grd.at_in ha)

theorem Grd.upto_all {G : Grd} (h : G.Ok) (x y : Int) : G.upto G.on.length x y = G.at x y := by
  rw [Grd.upto]
  cases ha : G.at x y
  · rfl
  · simp [Grd.at_lt h ha]

theorem Grd.upto_skip {G : Grd} (h : G.Ok) {k : Nat} (hk : k < G.on.length) (hv : G.on.getD k false = false) (x y : Int) : G.upto (k + 1) x y = G.upto k x y := by
  rw [Grd.upto, Grd.upto]
  cases ha : G.at x y
  · rfl
  · have hne : G.ix x y ≠ k := by
      rintro rfl
      rw [Grd.at, hv] at ha; simp at ha
    simp only [Bool.true_and, decide_eq_decide]; omega

theorem Grd.upto_next {G : Grd} (h : G.Ok) {k : Nat} (hk : k < G.on.length) (hv : G.on.getD k false = true) (x y : Int) : G.upto (k + 1) x y = (G.upto k x y || decide (x = G.cx k ∧ y = G.cy k)) := by
  rw [Grd.upto, Grd.upto]
  obtain ⟨h1, h2⟩ := h.in_of hk
  cases ha : G.at x y
  · have hne : ¬ (x = G.cx k ∧ y = G.cy k) := by
      rintro ⟨rfl, rfl⟩
      rw [h.at_ix hk, hv] at ha; cases ha
    simp [hne]
  · by_cases he : x = G.cx k ∧ y = G.cy k
    · obtain ⟨rfl, rfl⟩ := he
      rw [h2]; simp
    · have hne : G.ix x y ≠ k := fun e => he (by
        have := Grd.ix_inj (Grd.at_in ha) h1 (by rw [h2, e])
        exact this)
      simp only [Bool.true_and, he, decide_false, Bool.or_false, decide_eq_decide]; omega

theorem Box4.one {S : Int → Int → Bool} {a b : Int} (h : ∀ x y, S x y = decide (x = a ∧ y = b)) : Box4 S a b a b := by
  refine ⟨fun x y hS => ?_, ⟨b, by simp [h]⟩, ⟨b, by simp [h]⟩, ⟨a, by simp [h]⟩, ⟨a, by simp [h]⟩⟩
  rw [h] at hS; simp at hS; omega

theorem Box4.more {S T : Int → Int → Bool} {x0 y0 x1 y1 a b : Int} (hb : Box4 S x0 y0 x1 y1) (h : ∀ x y, T x y = (S x y || decide (x = a ∧ y = b))) : Box4 T (min x0 a) (min y0 b) (max x1 a) (max y1 b) := by
  refine ⟨fun x y hT => ?_, ?_, ?_, ?_, ?_⟩
  · rw [h] at hT; simp at hT
    rcases hT with hT | ⟨rfl, rfl⟩
    · have := hb.in_ x y hT; omega
    · omega
  · by_cases hx : x0 ≤ a
    · obtain ⟨y, hy⟩ := hb.l
      exact ⟨y, by rw [Int.min_eq_left hx, h, hy]; rfl⟩
    · exact ⟨b, by rw [Int.min_eq_right (by omega), h]; simp⟩
  · by_cases hx : a ≤ x1
    · obtain ⟨y, hy⟩ := hb.r
      exact ⟨y, by rw [Int.max_eq_left hx, h, hy]; rfl⟩
    · exact ⟨b, by rw [Int.max_eq_right (by omega), h]; simp⟩
  · by_cases hx : y0 ≤ b
    · obtain ⟨x, hy⟩ := hb.b
      exact ⟨x, by rw [Int.min_eq_left hx, h, hy]; rfl⟩
    · exact ⟨a, by rw [Int.min_eq_right (by omega), h]; simp⟩
  · by_cases hx : b ≤ y1
    · obtain ⟨x, hy⟩ := hb.t
      exact ⟨x, by rw [Int.max_eq_left hx, h, hy]; rfl⟩
    · exact ⟨a, by rw [Int.max_eq_right (by omega), h]; simp⟩

theorem Box4.congr {S T : Int → Int → Bool} {x0 y0 x1 y1 : Int} (hb : Box4 S x0 y0 x1 y1) (h : ∀ x y, S x y = T x y) : Box4 T x0 y0 x1 y1 := by
  have : S = T := funext fun x => funext fun y => h x y
  rw [← this]; exact hb
/-- what is known of the least and the greatest: nothing yet, or the box -/
def BoxSt (S : Int → Int → Bool) (s : Bool) (x0 y0 x1 y1 : Int) : Prop := s = false ∧ (∀ x y, S x y = false) ∨ s = true ∧ Box4 S x0 y0 x1 y1

theorem BoxSt.congr {S T : Int → Int → Bool} {s : Bool} {x0 y0 x1 y1 : Int} (hb : BoxSt S s x0 y0 x1 y1) (h : ∀ x y, S x y = T x y) : BoxSt T s x0 y0 x1 y1 := by
  have : S = T := funext fun x => funext fun y => h x y
  rw [← this]; exact hb

end Go.Bl

namespace Go.Bl
open Go

theorem len_of_sub {α : Type} [DecidableEq α] : ∀ {l m : List α}, l.Nodup → (∀ a ∈ l, a ∈ m) → l.length ≤ m.length
  | [], _, _, _ => Nat.zero_le _
  | a :: l, m, hn, hs => by
    have ha := hs a List.mem_cons_self
    rw [List.nodup_cons] at hn
    have h1 : l.length ≤ (m.erase a).length := len_of_sub hn.2 fun b hb => (List.mem_erase_of_ne (fun e => hn.1 (by rw [← e]; exact hb))).2 (hs b (List.mem_cons_of_mem _ hb))
    rw [List.length_erase_of_mem ha] at h1
    have : 0 < m.length := List.length_pos_of_mem ha
    simp only [List.length_cons]; omega

/-- how many cells a set has near the origin -/
def cntM (M : Nat) (S : Int → Int → Bool) : Nat := (List.range M).countP fun k => S ((k % 100 : Nat) - 50) ((k / 100 : Nat) - 50)

def cntS (S : Int → Int → Bool) : Nat := cntM 10000 S
/-- how many of the first k cells of a grid are set -/
def cntK (G : Grd) (k : Nat) : Nat := (List.range k).countP fun i => G.on.getD i false

theorem cntK_next (G : Grd) (k : Nat) : cntK G (k + 1) = cntK G k + if G.on.getD k false then 1 else 0 := by
  unfold cntK
  rw [List.range_succ, List.countP_append]
  simp [List.countP_cons]

theorem mk_ok {step : Int} {S : Int → Int → Bool} {x0 y0 x1 y1 : Int} (hb : Box4 S x0 y0 x1 y1) (hs : stepB step = false) (h1 : x1 - x0 ≤ 199) (h2 : y1 - y0 ≤ 199) (hx : -100 ≤ x0 ∧ x0 ≤ 100) (hy : -100 ≤ y0 ∧ y0 ≤ 100) : CellsOk (mkC step S x0 y0 x1 y1) := by
  have hp := step_pos hs
  have hle := hb.le
  have hlen : (mkC step S x0 y0 x1 y1).rows.length = (y1 - y0 + 1).toNat := rowsB_len
  have hwd : wideR (mkC step S x0 y0 x1 y1).rows = (x1 - x0 + 1).toNat := by
    show (List.getD (rowsB _ _ _ _ _) 0 _).size = _
    rw [rowsB_at (by omega), rowB_size]
  have hbit : ∀ j i : Nat, j < (y1 - y0 + 1).toNat → i < (x1 - x0 + 1).toNat → bit (mkC step S x0 y0 x1 y1).rows j i = S (x0 + i) (y0 + j) := fun j i hj hi => rowsB_bit hj hi
  have hbd : ∀ a : Int, -100 ≤ a → a ≤ 100 → outB (a * step) (-2000000) 2000000 = false := fun a h1 h2 => by
    have h3 := Int.mul_le_mul_of_nonneg_right h2 (show 0 ≤ step by omega)
    have h4 := Int.mul_le_mul_of_nonneg_right h1 (show 0 ≤ step by omega)
    simp only [outB, Bool.or_eq_false_iff, decide_eq_false_iff_not]
    omega
  refine ⟨hs, fun h => by omega, by omega, fun j hj => ?_, by omega, fun _ => hbd _ hx.1 hx.2, fun _ => hbd _ hy.1 hy.2, mult_of, mult_of, fun _ => ?_⟩
  · rw [hlen] at hj
    rw [hwd]
    show (List.getD (rowsB _ _ _ _ _) j _).size = _ ∧ okR (List.getD (rowsB _ _ _ _ _) j _) = true
    rw [rowsB_at hj]
    exact ⟨rowB_size, rowB_ok⟩
  · obtain ⟨a1, k1⟩ := hb.l; obtain ⟨a2, k2⟩ := hb.r; obtain ⟨a3, k3⟩ := hb.b; obtain ⟨a4, k4⟩ := hb.t
    have i1 := hb.in_ _ _ k1; have i2 := hb.in_ _ _ k2; have i3 := hb.in_ _ _ k3; have i4 := hb.in_ _ _ k4
    unfold tightB
    simp only [Bool.and_eq_true, List.any_eq_true, List.mem_range, hlen, hwd]
    refine ⟨⟨⟨(a3 - x0).toNat, by omega, ?_⟩, ⟨(a4 - x0).toNat, by omega, ?_⟩⟩, ⟨(a1 - y0).toNat, by omega, ?_⟩, ⟨(a2 - y0).toNat, by omega, ?_⟩⟩
    · rw [hbit _ _ (by omega) (by omega), ← k3]; congr 1 <;> omega
    · rw [hbit _ _ (by omega) (by omega), ← k4]; congr 1 <;> omega
    · rw [hbit _ _ (by omega) (by omega), ← k1]; congr 1 <;> omega
    · rw [hbit _ _ (by omega) (by omega), ← k2]; congr 1 <;> omega

theorem IsCells.zero {step : Int} {S : Int → Int → Bool} {c : Cel} {e : Int} (h : IsCells step S c e) (hs : stepB step = false) (hb : ∀ x y, S x y = true → -50 ≤ x ∧ x < 50 ∧ -50 ≤ y ∧ y < 50) : e = 0 := by
  rcases h with ⟨-, -, h⟩ | ⟨x0, y0, x1, y1, hB, h⟩
  · exact h
  · obtain ⟨a1, k1⟩ := hB.l; obtain ⟨a2, k2⟩ := hB.r; obtain ⟨a3, k3⟩ := hB.b; obtain ⟨a4, k4⟩ := hB.t
    have := hb _ _ k1; have := hb _ _ k2; have := hb _ _ k3; have := hb _ _ k4
    rcases h with ⟨h, -⟩ | ⟨-, ⟨-, -, h⟩ | ⟨h, -⟩⟩
    · omega
    · exact h
    · exact absurd (cells_ok.2 (mk_ok hB hs (by omega) (by omega) (by omega) (by omega))) h

end Go.Bl

namespace Go.Bl
open Go
/-- all cells within k of one in its row are in the set -/
noncomputable def erX (k : Int) (S : Int → Int → Bool) (x y : Int) : Bool := @decide (∀ i, -k ≤ i → i ≤ k → S (x + i) y = true) (Classical.propDecidable _)

noncomputable def erY (k : Int) (S : Int → Int → Bool) (x y : Int) : Bool := @decide (∀ i, -k ≤ i → i ≤ k → S x (y + i) = true) (Classical.propDecidable _)
/-- a cell of the set lies within k in the row -/
noncomputable def diX (k : Int) (S : Int → Int → Bool) (x y : Int) : Bool := @decide (∃ i, -k ≤ i ∧ i ≤ k ∧ S (x - i) y = true) (Classical.propDecidable _)

noncomputable def diY (k : Int) (S : Int → Int → Bool) (x y : Int) : Bool := @decide (∃ i, -k ≤ i ∧ i ≤ k ∧ S x (y - i) = true) (Classical.propDecidable _)
variable {k m : Int} {S T : Int → Int → Bool} {x y : Int}

theorem erX_iff : erX k S x y = true ↔ ∀ i, -k ≤ i → i ≤ k → S (x + i) y = true := by unfold erX; exact @decide_eq_true_iff _ (Classical.propDecidable _)

theorem erY_iff : erY k S x y = true ↔ ∀ i, -k ≤ i → i ≤ k → S x (y + i) = true := by unfold erY; exact @decide_eq_true_iff _ (Classical.propDecidable _)

theorem diX_iff : diX k S x y = true ↔ ∃ i, -k ≤ i ∧ i ≤ k ∧ S (x - i) y = true := by unfold diX; exact @decide_eq_true_iff _ (Classical.propDecidable _)

theorem diY_iff : diY k S x y = true ↔ ∃ i, -k ≤ i ∧ i ≤ k ∧ S x (y - i) = true := by unfold diY; exact @decide_eq_true_iff _ (Classical.propDecidable _)

noncomputable def shrS (k : Int) (S : Int → Int → Bool) : Int → Int → Bool := erY k (erX k S)

noncomputable def groS (k : Int) (S : Int → Int → Bool) : Int → Int → Bool := diY k (diX k S)

theorem shr_iff : shrS k S x y = true ↔ ∀ i j, -k ≤ i → i ≤ k → -k ≤ j → j ≤ k → S (x + i) (y + j) = true := by
  unfold shrS
  rw [erY_iff]
  constructor
  · intro h i j h1 h2 h3 h4
    exact erX_iff.1 (h j h3 h4) i h1 h2
  · intro h j h3 h4
    exact erX_iff.2 fun i h1 h2 => h i j h1 h2 h3 h4

theorem gro_iff : groS k S x y = true ↔ ∃ i j, (-k ≤ i ∧ i ≤ k) ∧ (-k ≤ j ∧ j ≤ k) ∧ S (x - i) (y - j) = true := by
  unfold groS
  rw [diY_iff]
  constructor
  · rintro ⟨j, h3, h4, h⟩
    obtain ⟨i, h1, h2, h⟩ := diX_iff.1 h
    exact ⟨i, j, ⟨h1, h2⟩, ⟨h3, h4⟩, h⟩
  · rintro ⟨i, j, ⟨h1, h2⟩, ⟨h3, h4⟩, h⟩
    exact ⟨j, h3, h4, diX_iff.2 ⟨i, h1, h2, h⟩⟩

theorem beq_of_iff {p q : Bool} (h : p = true ↔ q = true) : p = q := by cases p <;> cases q <;> simp_all
/-- cells are there still after growing and shrinking -/
theorem closed (h : S x y = true) : shrS k (groS k S) x y = true :=
  shr_iff.2 fun i j h1 h2 h3 h4 => gro_iff.2 ⟨i, j, ⟨h1, h2⟩, ⟨h3, h4⟩, by rwa [show x + i - i = x by omega, show y + j - j = y by omega]⟩

/-- cells within d of the origin -/
def InS (d : Int) (S : Int → Int → Bool) : Prop := ∀ x y, S x y = true → -d ≤ x ∧ x ≤ d ∧ -d ≤ y ∧ y ≤ d

/-- the cells of a grid up to the kth, spread along the row, and the next one spread as far as i -/
def spX (S : Int → Int → Bool) (cx cy i n : Int) (x y : Int) : Bool := S x y || decide (y = cy ∧ -n ≤ x - cx ∧ x - cx < i)

def spY (S : Int → Int → Bool) (cx cy i n : Int) (x y : Int) : Bool := S x y || decide (x = cx ∧ -n ≤ y - cy ∧ y - cy < i)

theorem spX_start {cx cy n : Int} : spX S cx cy (-n) n x y = S x y := by
  rw [spX, show decide (y = cy ∧ -n ≤ x - cx ∧ x - cx < -n) = false from decide_eq_false (by omega), Bool.or_false]

theorem spY_start {cx cy n : Int} : spY S cx cy (-n) n x y = S x y := by
  rw [spY, show decide (x = cx ∧ -n ≤ y - cy ∧ y - cy < -n) = false from decide_eq_false (by omega), Bool.or_false]

theorem spX_next {cx cy i n : Int} (hi : -n ≤ i) : spX S cx cy (i + 1) n x y = (spX S cx cy i n x y || decide (x = cx + i ∧ y = cy)) := by
  refine beq_of_iff ?_
  simp only [spX, Bool.or_eq_true, decide_eq_true_eq, or_assoc]
  refine or_congr Iff.rfl ?_
  omega

theorem spY_next {cx cy i n : Int} (hi : -n ≤ i) : spY S cx cy (i + 1) n x y = (spY S cx cy i n x y || decide (x = cx ∧ y = cy + i)) := by
  refine beq_of_iff ?_
  simp only [spY, Bool.or_eq_true, decide_eq_true_eq, or_assoc]
  refine or_congr Iff.rfl ?_
  omega

theorem spX_end {cx cy n : Int} {S' : Int → Int → Bool} (h : ∀ x y, S' x y = (S x y || decide (x = cx ∧ y = cy))) : spX (diX n S) cx cy (n + 1) n x y = diX n S' x y := by
  refine beq_of_iff ?_
  rw [spX, Bool.or_eq_true, diX_iff, diX_iff, decide_eq_true_eq]
  constructor
  · rintro (⟨i, h1, h2, h3⟩ | ⟨h1, h2, h3⟩)
    · exact ⟨i, h1, h2, by rw [h, h3]; rfl⟩
    · exact ⟨x - cx, h2, by omega, by rw [h, h1, show x - (x - cx) = cx by omega]; simp⟩
  · rintro ⟨i, h1, h2, h3⟩
    rw [h, Bool.or_eq_true, decide_eq_true_eq] at h3
    rcases h3 with h3 | h3
    · exact .inl ⟨i, h1, h2, h3⟩
    · exact .inr (by omega)

theorem spY_end {cx cy n : Int} {S' : Int → Int → Bool} (h : ∀ x y, S' x y = (S x y || decide (x = cx ∧ y = cy))) : spY (diY n S) cx cy (n + 1) n x y = diY n S' x y := by
  refine beq_of_iff ?_
  rw [spY, Bool.or_eq_true, diY_iff, diY_iff, decide_eq_true_eq]
  constructor
  · rintro (⟨i, h1, h2, h3⟩ | ⟨h1, h2, h3⟩)
    · exact ⟨i, h1, h2, by rw [h, h3]; rfl⟩
    · exact ⟨y - cy, h2, by omega, by rw [h, h1, show y - (y - cy) = cy by omega]; simp⟩
  · rintro ⟨i, h1, h2, h3⟩
    rw [h, Bool.or_eq_true, decide_eq_true_eq] at h3
    rcases h3 with h3 | h3
    · exact .inl ⟨i, h1, h2, h3⟩
    · exact .inr (by omega)

theorem diX_none {n : Int} (h : ∀ x y, S x y = false) : diX n S x y = false := by
  rcases hd : diX n S x y with _ | _
  · rfl
  · obtain ⟨i, _, _, h3⟩ := diX_iff.1 hd
    rw [h] at h3; cases h3

theorem diY_none {n : Int} (h : ∀ x y, S x y = false) : diY n S x y = false := by
  rcases hd : diY n S x y with _ | _
  · rfl
  · obtain ⟨i, _, _, h3⟩ := diY_iff.1 hd
    rw [h] at h3; cases h3

end Go.Bl

namespace Go.Bl
open Go
/-- who is reached from s by steps nb inside A -/
inductive Rch (nb : Pt → List Pt) (A : Int → Int → Bool) (s : Pt) : Pt → Prop
  | start : Rch nb A s s
  | step {p q : Pt} : Rch nb A s p → q ∈ nb p → A q.x q.y = true → Rch nb A s q

theorem Rch.trans {nb : Pt → List Pt} {A : Int → Int → Bool} {s p q : Pt} (h : Rch nb A s p) (k : Rch nb A p q) : Rch nb A s q := by
  induction k with
  | start => exact h
  | step _ h1 h2 ih => exact ih.step h1 h2

theorem Rch.in_ {nb : Pt → List Pt} {A : Int → Int → Bool} {s p : Pt} (h : Rch nb A s p) (hs : A s.x s.y = true) : A p.x p.y = true := by
  cases h with
  | start => exact hs
  | step _ _ h => exact h

theorem Rch.mono {nb : Pt → List Pt} {A B : Int → Int → Bool} {s p : Pt} (h : Rch nb A s p) (hs : ∀ q, Rch nb A s q → A q.x q.y = true → B q.x q.y = true) : Rch nb B s p := by
  induction h with
  | start => exact .start
  | step h1 h2 h3 ih => exact ih.step h2 (hs _ (h1.step h2 h3) h3)

theorem Rch.symm {nb : Pt → List Pt} {A : Int → Int → Bool} (hn : ∀ p q, q ∈ nb p → p ∈ nb q) {s p : Pt} (h : Rch nb A s p) (hs : A s.x s.y = true) : Rch nb A p s := by
  induction h with
  | start => exact .start
  | step h1 h2 h3 ih => exact (Rch.start.step (hn _ _ h2) (h1.in_ hs)).trans ih
/-- a set that holds the start and is closed holds all -/
theorem Rch.closed {nb : Pt → List Pt} {A : Int → Int → Bool} {s p : Pt} (h : Rch nb A s p) {Q : Pt → Prop} (h0 : Q s) (hc : ∀ a b, Q a → Rch nb A s a → b ∈ nb a → A b.x b.y = true → Q b) : Q p := by
  induction h with
  | start => exact h0
  | step h1 h2 h3 ih => exact hc _ _ ih h1 h2 h3

def memL (l : List Pt) (x y : Int) : Bool := decide ((⟨x, y⟩ : Pt) ∈ l)

theorem memL_snoc (l : List Pt) (p : Pt) (x y : Int) : memL (l ++ [p]) x y = (memL l x y || decide (x = p.x ∧ y = p.y)) := by
  cases p with | mk a b =>
  unfold memL
  rw [Bool.eq_iff_iff]
  simp
/-- a search: V0 was seen before; l is what was found; of the first i all steps are done, of the next one the first m -/
structure Bfs (nb : Pt → List Pt) (A V0 : Int → Int → Bool) (s : Pt) (l : List Pt) (i m : Nat) : Prop where
  rch : ∀ q ∈ l, Rch nb A s q
  nd : l.Nodup
  new : ∀ q ∈ l, V0 q.x q.y = false
  s : s ∈ l
  done : ∀ j (hj : j < l.length), j < i → ∀ q ∈ nb l[j], A q.x q.y = true → q ∈ l ∨ V0 q.x q.y = true
  part : ∀ (hi : i < l.length), ∀ k (hk : k < (nb l[i]).length), k < m → A (nb l[i])[k].x (nb l[i])[k].y = true → (nb l[i])[k] ∈ l ∨ V0 (nb l[i])[k].x (nb l[i])[k].y = true
variable {nb : Pt → List Pt} {A V0 : Int → Int → Bool} {s : Pt} {l : List Pt} {i m : Nat}

theorem Bfs.start (h : V0 s.x s.y = false) : Bfs nb A V0 s [s] 0 0 :=
  ⟨fun q hq => by simp at hq; subst hq; exact .start, by simp, fun q hq => by simp at hq; subst hq; exact h, by simp, fun j hj h => by omega, fun hi k hk h => by omega⟩

theorem Bfs.skip (h : Bfs nb A V0 s l i m) (hi : i < l.length) (hm : m < (nb l[i]).length) (hs : A (nb l[i])[m].x (nb l[i])[m].y = true → (nb l[i])[m] ∈ l ∨ V0 (nb l[i])[m].x (nb l[i])[m].y = true) : Bfs nb A V0 s l i (m + 1) :=
  ⟨h.rch, h.nd, h.new, h.s, h.done, fun hi k hk hkm ha => by
    by_cases e : k = m
    · subst e; exact hs ha
    · exact h.part hi k hk (by omega) ha⟩

theorem Bfs.push (h : Bfs nb A V0 s l i m) (hi : i < l.length) (hm : m < (nb l[i]).length) {q : Pt} (hq : q = (nb l[i])[m]) (ha : A q.x q.y = true) (hl : q ∉ l) (hv : V0 q.x q.y = false) : Bfs nb A V0 s (l ++ [q]) i (m + 1) := by
  have hr : Rch nb A s q := (h.rch _ (List.getElem_mem hi)).step (by rw [hq]; exact List.getElem_mem hm) ha
  refine ⟨fun x hx => ?_, ?_, fun x hx => ?_, List.mem_append_left _ h.s, fun j hj hji x hx hax => ?_, fun hi' k hk hkm hax => ?_⟩
  · rcases List.mem_append.1 hx with hx | hx
    · exact h.rch x hx
    · simp at hx; subst hx; exact hr
  · rw [List.nodup_append]
    refine ⟨h.nd, by simp, fun a ha' b hb => ?_⟩
    simp at hb
    intro e
    exact hl (by rw [← hb, ← e]; exact ha')
  · rcases List.mem_append.1 hx with hx | hx
    · exact h.new x hx
    · simp at hx; subst hx; exact hv
  · have hj' : j < l.length := by omega
    rw [List.getElem_append_left hj'] at hx
    rcases h.done j hj' hji x hx hax with h | h
    · exact .inl (List.mem_append_left _ h)
    · exact .inr h
  · have e : (l ++ [q])[i] = l[i] := List.getElem_append_left hi
    simp only [e] at hk hax ⊢
    by_cases ek : k = m
    · subst ek; left; rw [← hq]; simp
    · rcases h.part hi k hk (by omega) hax with h | h
      · exact .inl (List.mem_append_left _ h)
      · exact .inr h

theorem Bfs.next (h : Bfs nb A V0 s l i m) (hm : ∀ hi : i < l.length, (nb l[i]).length ≤ m) : Bfs nb A V0 s l (i + 1) 0 :=
  ⟨h.rch, h.nd, h.new, h.s, fun j hj hji q hq ha => by
    by_cases e : j = i
    · subst e
      obtain ⟨k, hk, rfl⟩ := List.getElem_of_mem hq
      exact h.part hj k hk (by have := hm hj; omega) ha
    · exact h.done j hj (by omega) q hq ha, fun hi k hk h => by omega⟩
/-- at its end all that is reached is found -/
theorem Bfs.all (h : Bfs nb A V0 s l i m) (hi : l.length ≤ i) (hV : ∀ p q, q ∈ nb p → A q.x q.y = true → A p.x p.y = true → V0 q.x q.y = true → V0 p.x p.y = true) (hs : A s.x s.y = true) (p : Pt) : p ∈ l ↔ Rch nb A s p := by
  refine ⟨h.rch p, fun hr => ?_⟩
  refine hr.closed (Q := fun p => p ∈ l) h.s fun a b ha hra hb hab => ?_
  obtain ⟨j, hj, rfl⟩ := List.getElem_of_mem ha
  rcases h.done j hj (by omega) b hb hab with h1 | h1
  · exact h1
  · have h2 := hV l[j] b hb hab (hra.in_ hs) h1
    rw [h.new _ ha] at h2; cases h2
/-- a list of different cells of a box is no longer than the box -/
theorem nodup_box {l : List Pt} (hn : l.Nodup) {x0 y0 : Int} {W H : Nat} (hb : ∀ p ∈ l, x0 ≤ p.x ∧ p.x < x0 + W ∧ y0 ≤ p.y ∧ p.y < y0 + H) : l.length ≤ W * H := by
  have h1 : (l.map fun p => (p.y - y0).toNat * W + (p.x - x0).toNat).Nodup := by
    rw [List.Nodup, List.pairwise_map]
    refine hn.imp_of_mem fun {a b} ha hb' hne he => hne ?_
    have h1 := hb a ha
    have h2 := hb b hb'
    have hW : 0 < W := by omega
    have e1 := congrArg (· % W) he
    have e2 := congrArg (· / W) he
    simp only [Nat.add_comm (_ * W), Nat.add_mul_mod_self_right, Nat.add_mul_div_right _ _ hW] at e1 e2
    rw [Nat.mod_eq_of_lt (by omega), Nat.mod_eq_of_lt (by omega)] at e1
    rw [Nat.div_eq_of_lt (by omega), Nat.div_eq_of_lt (by omega)] at e2
    exact Pt.ext (by omega) (by omega)
  have h2 : ∀ k ∈ l.map (fun p => (p.y - y0).toNat * W + (p.x - x0).toNat), k ∈ List.range (W * H) := by
    intro k hk
    obtain ⟨p, hp, rfl⟩ := List.mem_map.1 hk
    have h3 := hb p hp
    rw [List.mem_range]
    have h4 : ((p.y - y0).toNat + 1) * W ≤ H * W := Nat.mul_le_mul_right _ (by omega)
    rw [Nat.add_mul, Nat.one_mul] at h4
    rw [Nat.mul_comm W H]; omega
  have h3 := len_of_sub h1 h2
  simpa using h3

end Go.Bl

namespace Go.Bl
open Go

def nb4 (p : Pt) : List Pt := [⟨p.x + 0, p.y + -1⟩, ⟨p.x + -1, p.y + 0⟩, ⟨p.x + 1, p.y + 0⟩, ⟨p.x + 0, p.y + 1⟩]

theorem nb4_symm (p q : Pt) (h : q ∈ nb4 p) : p ∈ nb4 q := by
  cases p; cases q
  simp only [nb4, List.mem_cons, List.not_mem_nil, or_false, Pt.mk.injEq] at h ⊢
  omega
open Classical in
/-- the cells that are connected with one -/
noncomputable def compB (S : Int → Int → Bool) (p : Pt) : Int → Int → Bool := fun x y => decide (Rch nb4 S p ⟨x, y⟩)

theorem compB_iff {S : Int → Int → Bool} {p : Pt} {x y : Int} : compB S p x y = true ↔ Rch nb4 S p ⟨x, y⟩ := by simp [compB]

theorem comp_sub {S : Int → Int → Bool} {p : Pt} (hp : S p.x p.y = true) {x y : Int} (h : compB S p x y = true) : S x y = true := (compB_iff.1 h).in_ hp

open Classical in
noncomputable def celOf (step : Int) (S : Int → Int → Bool) : Cel := if h : ∃ c, ∃ e, IsCells step S c e then h.choose else default

theorem celOf_eq {step : Int} {S : Int → Int → Bool} {c : Cel} {e : Int} (h : IsCells step S c e) : celOf step S = c := by
  have hx : ∃ c, ∃ e, IsCells step S c e := ⟨c, e, h⟩
  unfold celOf
  rw [dif_pos hx]
  obtain ⟨e', h'⟩ := hx.choose_spec
  exact (h'.uniq h).1
open Classical in
/-- the first cells of the groups -/
noncomputable def repsL (S : Int → Int → Bool) (E : List Pt) : List Pt := E.foldl (fun R p => if R.any (fun r => compB S r p.x p.y) then R else R ++ [p]) []

noncomputable def unB (S : Int → Int → Bool) (R : List Pt) : Int → Int → Bool := fun x y => R.any fun r => compB S r x y

theorem reps_snoc (S : Int → Int → Bool) (E : List Pt) (p : Pt) : repsL S (E ++ [p]) = if unB S (repsL S E) p.x p.y then repsL S E else repsL S E ++ [p] := by
  unfold repsL unB
  rw [List.foldl_append]; rfl

theorem unB_snoc (S : Int → Int → Bool) (R : List Pt) (p : Pt) (x y : Int) : unB S (R ++ [p]) x y = (unB S R x y || compB S p x y) := by simp [unB]

theorem snoc_indP {P : List Pt → Prop} (h0 : P []) (h1 : ∀ l s, P l → P (l ++ [s])) (l : List Pt) : P l := by
  have : ∀ l : List Pt, P l.reverse := fun l => by
    induction l with
    | nil => exact h0
    | cons x l ih => rw [List.reverse_cons]; exact h1 _ _ ih
  have := this l.reverse
  rwa [List.reverse_reverse] at this

/-- what the groups cover is closed -/
theorem un_closed {S : Int → Int → Bool} {R : List Pt} {p q : Pt} (hq : q ∈ nb4 p) (hp : S p.x p.y = true) (hV : unB S R q.x q.y = true) : unB S R p.x p.y = true := by
  simp only [unB, List.any_eq_true] at hV ⊢
  obtain ⟨r, hr, h⟩ := hV
  exact ⟨r, hr, compB_iff.2 ((compB_iff.1 h).step (nb4_symm _ _ hq) hp)⟩

/-- the cells of a grid, row by row: the first k places -/
def cellsG (G : Grd) (k : Nat) : List Pt := ((List.range k).filter fun i => G.on.getD i false).map fun i => ⟨G.cx i, G.cy i⟩

theorem cellsG_next (G : Grd) (k : Nat) : cellsG G (k + 1) = cellsG G k ++ if G.on.getD k false then [⟨G.cx k, G.cy k⟩] else [] := by
  unfold cellsG
  rw [List.range_succ, List.filter_append, List.map_append]
  congr 1
  rcases h : G.on.getD k false with _ | _ <;> simp only [List.filter_cons, List.filter_nil, h] <;> rfl

theorem cellsG_all {G : Grd} (h : G.Ok) (p : Pt) : p ∈ cellsG G G.on.length ↔ G.at p.x p.y = true := by
  unfold cellsG
  rw [List.mem_map, h.at_iff]
  constructor
  · rintro ⟨k, hk, rfl⟩
    rw [List.mem_filter, List.mem_range] at hk
    exact ⟨k, hk.1, hk.2, rfl, rfl⟩
  · rintro ⟨k, hk, ho, hx, hy⟩
    exact ⟨k, by rw [List.mem_filter, List.mem_range]; exact ⟨hk, ho⟩, Pt.ext hx.symm hy.symm⟩

theorem cellsG_in {G : Grd} (h : G.Ok) {k : Nat} (hk : k ≤ G.on.length) : ∀ p ∈ cellsG G k, G.at p.x p.y = true := by
  intro p hp
  unfold cellsG at hp
  obtain ⟨i, hi, rfl⟩ := List.mem_map.1 hp
  rw [List.mem_filter, List.mem_range] at hi
  exact (h.at_ix (by omega)).trans hi.2
/-- the parts of a grid's cells -/
noncomputable def partsG (step : Int) (S : Int → Int → Bool) (E : List Pt) : List Cel := (repsL S E).map fun r => celOf step (compB S r)

theorem parts_snoc (step : Int) (S : Int → Int → Bool) (E : List Pt) (p : Pt) : partsG step S (E ++ [p]) = if unB S (repsL S E) p.x p.y then partsG step S E else partsG step S E ++ [celOf step (compB S p)] := by
  unfold partsG
  rw [reps_snoc]
  split
  · rfl
  · rw [List.map_append]; rfl

end Go.Bl

namespace Go.Bl
open Go

def ltP (a b : Pt) : Prop := a.y < b.y ∨ a.y = b.y ∧ a.x < b.x

theorem sorted_uniq : ∀ {l m : List Pt}, l.Pairwise ltP → m.Pairwise ltP → (∀ p, p ∈ l ↔ p ∈ m) → l = m
  | [], m, _, _, h => by
    rcases m with _ | ⟨b, m⟩
    · rfl
    · have := (h b).2 (by simp); cases this
  | a :: l, m, hl, hm, h => by
    rcases m with _ | ⟨b, m⟩
    · have := (h a).1 (by simp); cases this
    · rw [List.pairwise_cons] at hl hm
      have hab : a = b := by
        rcases List.mem_cons.1 ((h a).1 (by simp)) with e | h1
        · exact e
        · rcases List.mem_cons.1 ((h b).2 (by simp)) with e | h2
          · exact e.symm
          · have k1 := hm.1 a h1
            have k2 := hl.1 b h2
            unfold ltP at k1 k2
            omega
      subst hab
      congr 1
      refine sorted_uniq hl.2 hm.2 fun p => ?_
      have hp := h p
      simp only [List.mem_cons] at hp
      constructor
      · intro h1
        rcases hp.1 (.inr h1) with e | h2
        · have := hl.1 p h1
          subst e
          unfold ltP at this; omega
        · exact h2
      · intro h1
        rcases hp.2 (.inr h1) with e | h2
        · have := hm.1 p h1
          subst e
          unfold ltP at this; omega
        · exact h2

theorem pair_of_sorted {l : List Pt} (hn : l.Nodup) (hs : ∀ i j (hi : i < l.length) (hj : j < l.length), i < j → ¬ (l[j].y < l[i].y ∨ l[j].y = l[i].y ∧ l[j].x < l[i].x)) : l.Pairwise ltP := by
  rw [List.pairwise_iff_getElem]
  intro i j hi hj hij
  have h1 := hs i j hi hj hij
  have h2 : l[i] ≠ l[j] := fun e => by
    have := (List.nodup_iff_pairwise_ne.1 hn)
    rw [List.pairwise_iff_getElem] at this
    exact this i j hi hj hij e
  unfold ltP
  by_cases e1 : l[i].y = l[j].y
  · by_cases e2 : l[i].x = l[j].x
    · exact absurd (Pt.ext e2 e1) h2
    · omega
  · omega

theorem cellsG_pair {G : Grd} (h : G.Ok) : (cellsG G G.on.length).Pairwise ltP := by
  unfold cellsG
  rw [List.pairwise_map]
  have hr : ((List.range G.on.length).filter fun i => G.on.getD i false).Pairwise (· < ·) := List.Pairwise.filter _ List.pairwise_lt_range
  refine hr.imp_of_mem fun {i j} hi hj hij => ?_
  rw [List.mem_filter, List.mem_range] at hi hj
  show G.y + ((i / G.wide : Nat) : Int) < G.y + ((j / G.wide : Nat) : Int) ∨ G.y + ((i / G.wide : Nat) : Int) = G.y + ((j / G.wide : Nat) : Int) ∧ G.x + ((i % G.wide : Nat) : Int) < G.x + ((j % G.wide : Nat) : Int)
  have ha := Nat.div_add_mod i G.wide
  have hb := Nat.div_add_mod j G.wide
  have hle : i / G.wide ≤ j / G.wide := Nat.div_le_div_right (Nat.le_of_lt hij)
  rcases Nat.lt_or_ge (i / G.wide) (j / G.wide) with hd | hd
  · left
    generalize i / G.wide = a at *
    generalize j / G.wide = b at *
    omega
  · have he : i / G.wide = j / G.wide := Nat.le_antisymm hle hd
    right
    rw [he] at ha ⊢
    generalize G.wide * (j / G.wide) = q at *
    generalize i % G.wide = a at *
    generalize j % G.wide = b at *
    exact ⟨rfl, by omega⟩
/-- a group among what is left is the group -/
theorem left_comp {S U : Int → Int → Bool} {R : List Pt} {k : Pt} (hU : ∀ x y, U x y = (S x y && !unB S R x y)) (hk : U k.x k.y = true) (p : Pt) : Rch nb4 U k p ↔ Rch nb4 S k p := by
  have hkS : S k.x k.y = true := by rw [hU] at hk; simp only [Bool.and_eq_true] at hk; exact hk.1
  have hkR : unB S R k.x k.y = false := by rw [hU] at hk; simp only [Bool.and_eq_true, Bool.not_eq_true'] at hk; exact hk.2
  constructor
  · intro h
    exact h.mono fun q _ hq => by rw [hU] at hq; simp only [Bool.and_eq_true] at hq; exact hq.1
  · intro h
    refine h.mono fun q hq hqS => ?_
    rw [hU, hqS]
    rcases hv : unB S R q.x q.y with _ | _
    · rfl
    · simp only [unB, List.any_eq_true] at hv
      obtain ⟨r, hr, hv⟩ := hv
      have h1 := (compB_iff.1 hv).trans (hq.symm nb4_symm hkS)
      have h2 : unB S R k.x k.y = true := by
        simp only [unB, List.any_eq_true]
        exact ⟨r, hr, compB_iff.2 h1⟩
      rw [h2] at hkR; cases hkR

end Go.Bl

namespace Go.Bl
open Go

structure Flo (nb : Pt → List Pt) (F : Int → Int → Bool) (s : Pt) (L Q : List Pt) : Prop where
  rch : ∀ p ∈ L, Rch nb F s p ∧ F p.x p.y = true
  nd : L.Nodup
  src : ∀ q ∈ Q, F q.x q.y = true → Rch nb F s q
  don : ∀ p ∈ L, ∀ q ∈ nb p, F q.x q.y = true → q ∈ L ∨ q ∈ Q
  st : s ∈ L ∨ s ∈ Q
section
variable {nb : Pt → List Pt} {F : Int → Int → Bool} {s x : Pt} {L Q : List Pt}

theorem Flo.start : Flo nb F s [] [s] := ⟨fun p hp => absurd hp (by simp), List.nodup_nil, fun q hq _ => (by rw [List.mem_singleton.1 hq]; exact .start), fun p hp => absurd hp (by simp), .inr (by simp)⟩

theorem Flo.skip (h : Flo nb F s L (x :: Q)) (hs : F s.x s.y = true) (hx : x ∈ L ∨ F x.x x.y = false) : Flo nb F s L Q := by
  refine ⟨h.rch, h.nd, fun q hq => h.src q (List.mem_cons_of_mem _ hq), fun p hp q hq hF => ?_, ?_⟩
  · rcases h.don p hp q hq hF with h1 | h1
    · exact .inl h1
    · rcases List.mem_cons.1 h1 with rfl | h2
      · rcases hx with hx | hx
        · exact .inl hx
        · rw [hx] at hF; cases hF
      · exact .inr h2
  · rcases h.st with h1 | h1
    · exact .inl h1
    · rcases List.mem_cons.1 h1 with rfl | h2
      · rcases hx with hx | hx
        · exact .inl hx
        · rw [hx] at hs; cases hs
      · exact .inr h2

theorem Flo.take (h : Flo nb F s L (x :: Q)) (hF : F x.x x.y = true) (hx : x ∉ L) {l : List Pt} (hl : ∀ q, q ∈ l ↔ q ∈ nb x) : Flo nb F s (L ++ [x]) (Q ++ l) := by
  have hr := h.src x (by simp) hF
  refine ⟨fun p hp => ?_, ?_, fun q hq hFq => ?_, fun p hp q hq hFq => ?_, ?_⟩
  · rcases List.mem_append.1 hp with h1 | h1
    · exact h.rch p h1
    · rw [List.mem_singleton.1 h1]; exact ⟨hr, hF⟩
  · rw [List.nodup_append]
    refine ⟨h.nd, by simp, fun a ha b hb => ?_⟩
    rw [List.mem_singleton.1 hb]
    rintro rfl
    exact hx ha
  · rcases List.mem_append.1 hq with h1 | h1
    · exact h.src q (List.mem_cons_of_mem _ h1) hFq
    · exact hr.step ((hl q).1 h1) hFq
  · rcases List.mem_append.1 hp with h1 | h1
    · rcases h.don p h1 q hq hFq with h2 | h2
      · exact .inl (List.mem_append_left _ h2)
      · rcases List.mem_cons.1 h2 with rfl | h3
        · exact .inl (List.mem_append_right _ (by simp))
        · exact .inr (List.mem_append_left _ h3)
    · rw [List.mem_singleton.1 h1] at hq
      exact .inr (List.mem_append_right _ ((hl q).2 hq))
  · rcases h.st with h1 | h1
    · exact .inl (List.mem_append_left _ h1)
    · rcases List.mem_cons.1 h1 with rfl | h2
      · exact .inl (List.mem_append_right _ (by simp))
      · exact .inr (List.mem_append_left _ h2)

theorem Flo.done (h : Flo nb F s L []) (p : Pt) : p ∈ L ↔ Rch nb F s p := by
  refine ⟨fun hp => (h.rch p hp).1, fun hr => ?_⟩
  have hs : s ∈ L := by
    rcases h.st with h1 | h1
    · exact h1
    · cases h1
  exact hr.closed (Q := fun p => p ∈ L) hs fun a b ha _ hb hab => by
    rcases h.don a ha b hb hab with h1 | h1
    · exact h1
    · cases h1
/-- the cells of a box less those of a set, row by row -/
def boxU (x0 y0 x1 : Int) (O : Int → Int → Bool) (y x : Int) (u v : Int) : Bool := decide ((x0 ≤ u ∧ u ≤ x1) ∧ y0 ≤ v ∧ (v < y ∨ v = y ∧ u < x)) && !O u v

theorem boxU_zero (x0 y0 x1 : Int) (O : Int → Int → Bool) (u v : Int) : boxU x0 y0 x1 O y0 x0 u v = false := by
  unfold boxU
  rw [decide_eq_false (by omega), Bool.false_and]

theorem boxU_row {x0 y0 x1 : Int} {O : Int → Int → Bool} {y x : Int} (hx : x1 < x) (hy : y0 ≤ y) (u v : Int) : boxU x0 y0 x1 O y x u v = boxU x0 y0 x1 O (y + 1) x0 u v := by
  unfold boxU
  congr 1
  rw [decide_eq_decide]
  omega

theorem boxU_next {x0 y0 x1 : Int} {O : Int → Int → Bool} {y x : Int} (hx : x0 ≤ x ∧ x ≤ x1) (hy : y0 ≤ y) (u v : Int) : boxU x0 y0 x1 O y (x + 1) u v = (boxU x0 y0 x1 O y x u v || (!O x y && decide (u = x ∧ v = y))) := by
  unfold boxU
  by_cases h : u = x ∧ v = y
  · obtain ⟨rfl, rfl⟩ := h
    rw [decide_eq_true (by omega), decide_eq_false (by omega)]
    simp
  · rw [decide_eq_false h, Bool.and_false, Bool.or_false]
    congr 1
    rw [decide_eq_decide]
    omega
end

end Go.Bl

namespace Go.Bl
open Go

def nb9 (p : Pt) : List Pt := (List.range 9).map fun k => ⟨p.x + ((k % 3 : Nat) - 1 : Int), p.y + ((k / 3 : Nat) - 1 : Int)⟩

theorem nb9_mem {p q : Pt} : q ∈ nb9 p ↔ (-1 ≤ q.x - p.x ∧ q.x - p.x ≤ 1) ∧ -1 ≤ q.y - p.y ∧ q.y - p.y ≤ 1 := by
  unfold nb9
  rw [List.mem_map]
  constructor
  · rintro ⟨k, hk, rfl⟩
    rw [List.mem_range] at hk
    simp only
    omega
  · rintro ⟨h1, h2⟩
    refine ⟨((q.y - p.y + 1) * 3 + (q.x - p.x + 1)).toNat, ?_, Pt.ext ?_ ?_⟩
    · rw [List.mem_range]; omega
    · simp only; omega
    · simp only; omega
/-- the frame around a box, less the cells -/
def frmB (S : Int → Int → Bool) (x0 y0 x1 y1 : Int) : Int → Int → Bool := fun x y => decide ((x0 - 1 ≤ x ∧ x ≤ x1 + 1) ∧ y0 - 1 ≤ y ∧ y ≤ y1 + 1) && !S x y

theorem frm_iff {S : Int → Int → Bool} {x0 y0 x1 y1 x y : Int} : frmB S x0 y0 x1 y1 x y = true ↔ ((x0 - 1 ≤ x ∧ x ≤ x1 + 1) ∧ y0 - 1 ≤ y ∧ y ≤ y1 + 1) ∧ S x y = false := by simp [frmB]

def OutR (S : Int → Int → Bool) (x0 y0 x1 y1 : Int) (p : Pt) : Prop := Rch nb9 (frmB S x0 y0 x1 y1) ⟨x0 - 1, y0 - 1⟩ p
open Classical in
/-- the cells of a box from which no way leads out -/
noncomputable def closB (S : Int → Int → Bool) (x0 y0 x1 y1 : Int) : Int → Int → Bool := fun x y => decide ((x0 ≤ x ∧ x ≤ x1) ∧ y0 ≤ y ∧ y ≤ y1) && !decide (OutR S x0 y0 x1 y1 ⟨x, y⟩)

theorem clos_iff {S : Int → Int → Bool} {x0 y0 x1 y1 x y : Int} : closB S x0 y0 x1 y1 x y = true ↔ ((x0 ≤ x ∧ x ≤ x1) ∧ y0 ≤ y ∧ y ≤ y1) ∧ ¬ OutR S x0 y0 x1 y1 ⟨x, y⟩ := by simp [closB]
section
variable {S : Int → Int → Bool} {x0 y0 x1 y1 : Int}
end

end Go.Bl
