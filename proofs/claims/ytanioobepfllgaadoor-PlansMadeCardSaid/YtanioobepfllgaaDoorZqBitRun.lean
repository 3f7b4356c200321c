/- Contracts of functions that this seat's laws reach, each: what one call returns and what it leaves in memory; no condition beyond each theorem's own hypotheses. -/
import Derived.Test.YtanioobepfllgaaDoorZqTree
import Derived.Test.YtanioobepfllgaaDoorZqNest2
set_option linter.unusedVariables false
set_option linter.unusedSimpArgs false
namespace Go.Bl
open Go

structure Pt where
  x : Int
  y : Int
deriving DecidableEq, Inhabited

instance : Enc Pt where
  sz := 2
  rep := fun _ _ p cs => cs = [.int .i64 p.x, .int .i64 p.y]
  len := by rintro w lo x cs rfl; rfl
  one := by rintro w lo x cs rfl u hu; simp at hu; rcases hu with rfl | rfl <;> rfl
  keep := fun h _ => h
  mono := fun h _ => h

theorem Pt.ext {a b : Pt} (h : a.x = b.x) (h2 : a.y = b.y) : a = b := by cases a; cases b; simp_all

instance : Flat Pt := ⟨fun h => h, by decide⟩

/-- a path as it lies in a row: the address of its points, how many, the room, closed -/
structure RawP where
  A : Option Addr
  n : Nat
  c : Nat
  b : Bool

instance : Enc RawP where
  sz := 2
  rep := fun _ _ p cs => cs = [.slice p.A p.n p.c, .bool p.b]
  len := by rintro w lo x cs rfl; rfl
  one := by rintro w lo x cs rfl u hu; simp at hu; rcases hu with rfl | rfl <;> rfl
  keep := fun h _ => h
  mono := fun h _ => h

instance : Flat RawP := ⟨fun h => h, by decide⟩

structure PathV where
  pts : List Pt
  cl : Bool
deriving DecidableEq, Inhabited

instance : Enc PathV where
  sz := 2
  rep := fun w lo p cs => ∃ A c, cs = [.slice A p.pts.length c, .bool p.cl] ∧ p.pts.length ≤ c ∧ Sl w lo A p.pts
  len := by rintro w lo x cs ⟨A, c, rfl, _, _⟩; rfl
  one := by rintro w lo x cs ⟨A, c, rfl, _, _⟩ u hu; simp at hu; rcases hu with rfl | rfl <;> rfl
  keep := fun ⟨A, c, h1, h0, h2⟩ hk => ⟨A, c, h1, h0, h2.keep hk⟩
  mono := fun ⟨A, c, h1, h0, h2⟩ hl => ⟨A, c, h1, h0, h2.mono hl⟩

instance : NestOf RawP PathV where
  adr := fun r => r.A
  ok := fun w lo r x => r.n = x.pts.length ∧ r.b = x.cl ∧ r.n ≤ r.c ∧ Sl w lo r.A x.pts ∧ ∀ g, blk r.A = some g → lo ≤ g ∧ g < w.heap.size
  gr := fun ⟨h1, h2, h0, h3, h4⟩ hg hq => ⟨h1, h2, h0, h3.ne hg hq, fun g hb => ⟨(h4 g hb).1, Nat.lt_of_lt_of_le (h4 g hb).2 hg.size⟩⟩
  rep := fun {_ _ r _ _} ⟨h1, h2, h0, h3, _⟩ hr => ⟨r.A, r.c, by rw [← h1, ← h2]; exact hr, by rw [← h1]; exact h0, h3⟩
  lt := fun ⟨_, _, _, _, h4⟩ hb => h4 _ hb

structure Vis where
  path : Int
  start : Int
  back : Bool
deriving DecidableEq, Inhabited

instance : Enc Vis where
  sz := 3
  rep := fun _ _ p cs => cs = [.int .i64 p.path, .int .i64 p.start, .bool p.back]
  len := by rintro w lo x cs rfl; rfl
  one := by rintro w lo x cs rfl u hu; simp at hu; rcases hu with rfl | rfl | rfl <;> rfl
  keep := fun h _ => h
  mono := fun h _ => h

instance : Flat Vis := ⟨fun h => h, by decide⟩

/-! ### what is asked -/

def farP (p : Pt) : Bool := outB p.x (-100000) 100000 || outB p.y (-100000) 100000

def pathF (p : PathV) : Int :=
  if p.pts.length = 0 then 8 else if 500 < p.pts.length then 2 else if p.cl = true ∧ p.pts.length < 3 then 3 else if p.pts.any farP then 1 else 0
/-- the first that is not 0 -/
def firstF (l : List Int) : Int := orL l

def pathsF (l : List PathV) : Int := if 200 < l.length then 2 else orL (l.map pathF)
/-- of a visit whose path is there -/
def formF (p : PathV) (v : Vis) : Int :=
  if (p.cl && v.back || !p.cl && v.start != 0) = true then 3 else spanF v.start 0 (p.pts.length - 1)

def hasP (b : List Vis) (p : Int) : Bool := b.any fun x => x.path == p

def visitF (l : List PathV) (before : List Vis) (v : Vis) : Int :=
  if inB v.path 0 (l.length - 1) = false then 1 else if hasP before v.path then 6 else formF (l.getD v.path.toNat default) v

def visitsF (l : List PathV) : List Vis → List Vis → Int
  | _, [] => 0
  | b, v :: o => orS (visitF l b v) (visitsF l (b ++ [v]) o)

/-- which paths are seen -/
def seenL (n : Nat) (b : List Vis) : List Bool := (List.range n).map fun (i : Nat) => hasP b (i : Int)

instance : Enc Bool where
  sz := 1
  rep := fun _ _ x cs => cs = [.bool x]
  len := by rintro w lo x cs rfl; rfl
  one := by rintro w lo x cs rfl u hu; simp at hu; subst hu; rfl
  keep := fun h _ => h
  mono := fun h _ => h

instance : Flat Bool := ⟨fun h => h, by decide⟩

theorem Own.cell_bool {w : World} {lo : Nat} {e : TypeId} {g c : Nat} {l : List Bool} (h : Own w lo e (some ⟨g, 0, none⟩) c l) {j : Nat} (hj : j < l.length) : w.cell? ⟨g, j, none⟩ = some (.bool l[j]) := by
  obtain ⟨c1, rfl, hc⟩ := h.cell_at (by decide) hj
  have := hc 0 _ rfl
  rwa [show Enc.sz Bool = 1 from rfl, Nat.mul_one, Nat.add_zero] at this

theorem Own.set_bool {w : World} {lo : Nat} {e : TypeId} {g c : Nat} {l : List Bool} (h : Own w lo e (some ⟨g, 0, none⟩) c l) {j : Nat} (hj : j < l.length) (v : Bool) : Own (w.setCell ⟨g, j, none⟩ (.bool v)) lo e (some ⟨g, 0, none⟩) c (l.set j v) := by
  have := h.put hj (j := 0) (x := v) (u := .bool v) (by decide) (by rintro c1 rfl; rfl)
  rwa [show Enc.sz Bool = 1 from rfl, Nat.mul_one, Nat.add_zero] at this
def orderF (l : List PathV) (o : List Vis) : Int := orS (pathsF l) (if o.length ≠ l.length then 3 else visitsF l [] o)

def oneF (l : List PathV) (v : Vis) : Int := orS (pathsF l) (visitF l [] v)
/-- the points that a visit prints -/
def turned (p : PathV) (v : Vis) : List Pt :=
  let out := p.pts.drop v.start.toNat ++ p.pts.take v.start.toNat
  if p.cl then out ++ out.take 1 else if v.back then out.reverse else out

def printedV (l : List PathV) (v : Vis) : List Pt := turned (l.getD v.path.toNat default) v

def distP (a b : Pt) : Int := max (max (a.x - b.x) (b.x - a.x)) (max (a.y - b.y) (b.y - a.y))

def firstP (l : List PathV) (v : Vis) : Pt := (printedV l v).headD default

def lastP (l : List PathV) (v : Vis) : Pt := (printedV l v).getLastD default

def travelV (l : List PathV) : Pt → List Vis → Int
  | _, [] => 0
  | at_, v :: o => distP at_ (firstP l v) + travelV l (lastP l v) o

end Go.Bl

namespace Go.Bl
open Go

def rawCells (l : List RawP) : List Value := l.flatMap fun r => [.slice r.A r.n r.c, .bool r.b]

theorem Own.cut {α : Type} [Enc α] {w : World} {lo : Nat} {e : TypeId} {g c : Nat} {l : List α} (h : Own w lo e (some ⟨g, 0, none⟩) c l) {m : Nat} (hm : m ≤ l.length) : Own w lo e (some ⟨g, 0, none⟩) c (l.take m) := by
  obtain ⟨hx, cs, hr, h1, h2⟩ := h
  have hl : (l.take m).length = m := by rw [List.length_take]; omega
  refine ⟨by omega, _, hr.take m, ?_, ?_⟩
  · rw [List.length_take, h1, hl, Nat.min_eq_left (Nat.mul_le_mul_right _ hm)]
  · rcases h2 with ⟨hv, _⟩ | ⟨g', cap, cur, hv, hb, hh, hn, hcm, hs, ht⟩
    · cases hv
    · refine .inr ⟨g', cap, cur, ?_, hb, hh, by omega, hcm, hs, ?_⟩
      · injection hv with e1 _ e3
        rw [e1, e3]
      · rw [hl, ← ht, List.take_take, Nat.min_eq_left (Nat.mul_le_mul_right _ hm)]

end Go.Bl

namespace Go.Bl
open Go Go.RowKit

theorem run_shl1 {P : Program} (w : World) (t : TypeId) {k : Nat} (hk : k ≤ 8) : (binOp .shl t (.int .i64 1) (.int .i64 (k : Int))).run P w = .ok (.int .i64 ((2 ^ k : Nat) : Int)) w := by
  rcases (show k = 0 ∨ k = 1 ∨ k = 2 ∨ k = 3 ∨ k = 4 ∨ k = 5 ∨ k = 6 ∨ k = 7 ∨ k = 8 by omega) with rfl | rfl | rfl | rfl | rfl | rfl | rfl | rfl | rfl <;> rfl

theorem bits_orS {u v : Nat} (hu : u < 256) (hv : v < 256) : bits .or .i64 (u : Int) (v : Int) = ((u ||| v : Nat) : Int) := by
  have h0 : u ||| v < 2 ^ 8 := Nat.or_lt_two_pow hu hv
  show IntKind.i64.wrap ((BitVec.ofInt 64 (u : Int) ||| BitVec.ofInt 64 (v : Int)).toNat : Int) = _
  have h2 : (BitVec.ofInt 64 (u : Int) ||| BitVec.ofInt 64 (v : Int)).toNat = u ||| v := by
    rw [BitVec.toNat_or, BitVec.toNat_ofInt, BitVec.toNat_ofInt]
    congr 1 <;> omega
  rw [h2, IntWalk.i64_in _ (by omega)]

end Go.Bl
