/- Contracts of functions that this seat's laws reach, each: what one call returns and what it leaves in memory; no condition beyond each theorem's own hypotheses. -/
import Derived.Test.YtejmbaiioblfeaaGreatDoorZqTree
import Derived.Deep.DeepCutAuto
import Derived.Laws.Cover1
set_option linter.unusedVariables false
set_option linter.unusedSimpArgs false
namespace Go.Bl
open Go Go.RowKit
variable {P : Program}

/-- a step that writes at most one old block, of which p holds -/
def Wrt (p : Nat → Prop) (w w' : World) : Prop := ∃ r, w.grownBy w' r ∧ ∀ g, r = some g → p g

theorem Wrt.pure {p : Nat → Prop} {w w' : World} (h : w.grownBy w' none) : Wrt p w w' := ⟨none, h, fun g e => by cases e⟩

theorem Wrt.one {p : Nat → Prop} {w w' : World} {g : Nat} (h : w.grownBy w' (some g)) (hp : p g) : Wrt p w w' := ⟨some g, h, fun g' e => by cases e; exact hp⟩

theorem Wrt.mono {p q : Nat → Prop} {w w' : World} (h : Wrt p w w') (hpq : ∀ g, p g → q g) : Wrt q w w' := let ⟨r, h1, h2⟩ := h; ⟨r, h1, fun g e => hpq g (h2 g e)⟩

theorem Wrt.cell {p : Nat → Prop} {w w' : World} {q : Addr} {v : Value} (hw : Wrt p w w') (h : w.cell? q = some v) (hp : ¬ p q.block) : w'.cell? q = some v := let ⟨_, h1, h2⟩ := hw; gr_cell h1 h (fun e => hp (h2 _ e))

/-- a fact of each operation's value that stays -/
def Stab (M : (Nat → Bool) → World → World → Prop) : Nat → List (Value → World → Prop) → Prop
  | _, [] => True
  | i, φ :: r => (∀ (m : Nat → Bool) v w w', m i = true → M m w w' → φ v w → φ v w') ∧ Stab M (i + 1) r

theorem Stab.at_ {M : (Nat → Bool) → World → World → Prop} : ∀ {Φ : List (Value → World → Prop)} {j : Nat}, Stab M j Φ → ∀ (i : Nat) (m : Nat → Bool) v w w', m (j + i) = true → M m w w' → Φ.getD i (fun _ _ => False) v w → Φ.getD i (fun _ _ => False) v w'
  | [], _, _, i, _, _, _, _, _, _, h => by simp at h
  | _ :: _, _, hs, 0, m, v, w, w', hm, hM, h => hs.1 m v w w' hm hM h
  | _ :: r, j, hs, i + 1, m, v, w, w', hm, hM, h => by
    have := Stab.at_ (Φ := r) hs.2 i m v w w' (by rw [← hm]; congr 1; omega) hM (by simpa using h)
    simpa using this

theorem Stab.ok {M : (Nat → Bool) → World → World → Prop} {Φ : List (Value → World → Prop)} (h : Stab M 0 Φ) : ∀ (i : Nat) (m : Nat → Bool) v w w', m i = true → M m w w' → Φ.getD i (fun _ _ => False) v w → Φ.getD i (fun _ _ => False) v w' := fun i m v w w' hm => h.at_ i m v w w' (by simpa using hm)

def VIs (x : Value) : Value → World → Prop := fun v _ => v = x

def VInt : Value → World → Prop := fun v _ => ∃ r, v = .int .i64 r

def VIntP (p : Int → Prop) : Value → World → Prop := fun v _ => ∃ r, v = .int .i64 r ∧ p r

def VBool : Value → World → Prop := fun v _ => ∃ r, v = .bool r

def VLit {α : Type} [Enc α] (lo n : Nat) : Value → World → Prop := fun v w => ∃ (g : Nat) (l : List α), v = .slice (some ⟨g, 0, none⟩) n n ∧ l.length = n ∧ Sl w lo (some ⟨g, 0, none⟩) l

def VLitI (lo : Nat) (l : List Int) : Value → World → Prop := fun v w => ∃ (g : Nat), v = .slice (some ⟨g, 0, none⟩) l.length l.length ∧ Sl w lo (some ⟨g, 0, none⟩) l

/-- one old or new cell of an open block -/
def Cell (w : World) (g o : Nat) (v : Value) : Prop := w.cell? ⟨g, o, none⟩ = some v ∧ w.frozen? ⟨g, o, none⟩ = false

theorem Cell.gr {w w' : World} {g o : Nat} {v : Value} {r : Option Nat} (h : Cell w g o v) (hg : w.grownBy w' r) (hr : r ≠ some g) : Cell w' g o v := ⟨gr_cell hg h.1 (by simpa using hr), gr_froz hg h.1 (by simpa using hr) h.2⟩

theorem Cell.lt {w : World} {g o : Nat} {v : Value} (h : Cell w g o v) : g < w.heap.size := cell_lt h.1

theorem Cell.set_ {w : World} {g o : Nat} {v : Value} (h : Cell w g o v) (u : Value) : Cell (w.setCell ⟨g, o, none⟩ u) g o u := ⟨World.cell?_setCell_same w _ _ h.1, by rw [World.frozen?_setCell]; exact h.2⟩

theorem Cell.set_ne {w : World} {g o o' : Nat} {v : Value} (h : Cell w g o v) (u : Value) (hne : o' ≠ o) : Cell (w.setCell ⟨g, o', none⟩ u) g o v := ⟨(World.cell?_setCell_other w ⟨g, o', none⟩ ⟨g, o, none⟩ u (by simp only [ne_eq, Addr.mk.injEq, true_and, and_true]; exact hne)).trans h.1, by rw [World.frozen?_setCell]; exact h.2⟩

theorem Cell.new (w : World) (cs : List Value) (t : TypeId) (o : Nat) (v : Value) (h : cs[o]? = some v) (g : Nat) (hg : g = w.heap.size) : Cell (w.alloc (.cells cs.toArray t)) g o v := by
  subst hg
  exact ⟨by rw [cell_of_row _ w.heap.size o _ t (0, 0) (heap_alloc_new w _)]; simpa using h, frozen_of_row _ w.heap.size o _ t (heap_alloc_new w _)⟩

theorem SOut.set {b : Nat} {N : Int} {w w1 : World} {p : Addr} (h : SOut b N w w1) (hb : b < w.heap.size) (hp : w.heap.size ≤ p.block) (v : Value) : SOut b N w (w1.setCell p v) :=
  ⟨gr_set h.1 (.inr hp) v, h.2.gr (r := some p.block) (gr_set (World.grownBy.refl _ _) (.inl rfl) v) (fun g e => by cases e; omega)⟩

theorem SOut.al {b : Nat} {N : Int} {w w1 : World} (h : SOut b N w w1) (o : Obj) : SOut b N w (w1.alloc o) := h.pure (gr_alloc (World.grownBy.refl _ _) o)

theorem SOut.drew {b : Nat} {N : Int} {w w1 : World} (h : SOut b N w w1) : SOut b N w w1.drew := h.pure (gr_drew (World.grownBy.refl _ _))

theorem SOut.drewN {b : Nat} {N : Int} {w w1 : World} (h : SOut b N w w1) (n : Nat) : SOut b N w (w1.drewN n) := h.pure (gr_drewN (World.grownBy.refl _ _) n)

theorem SOut.size {b : Nat} {N : Int} {w w1 : World} (h : SOut b N w w1) : w.heap.size ≤ w1.heap.size := h.1.size
/-- what is written in blocks that are new since w -/
theorem SOut.new {b : Nat} {N : Int} {w w1 w2 : World} (h : SOut b N w w1) (hb : b < w.heap.size) {r : Option Nat} (hg : w1.grownBy w2 r) (hr : ∀ g, r = some g → w.heap.size ≤ g) : SOut b N w w2 :=
  ⟨gr_row h.1 hg hr, h.2.gr hg (fun g e => by have := hr g e; omega)⟩

theorem Own.cell_at {α : Type} [Enc α] {w : World} {lo : Nat} {e : TypeId} {g c : Nat} {l : List α} (h : Own w lo e (some ⟨g, 0, none⟩) c l) (hs : 0 < Enc.sz α) {i : Nat} (hi : i < l.length) :
    ∃ c1, Enc.rep w lo l[i] c1 ∧ ∀ j u, c1[j]? = some u → w.cell? ⟨g, i * Enc.sz α + j, none⟩ = some u := by
  obtain ⟨g', o, c1, hA, _, _, hr, hc⟩ := h.sl.at_ hs hi
  injection hA with hA
  injection hA with e1 e2
  subst e1
  subst e2
  exact ⟨c1, hr, fun j u hu => by have := hc j u hu; rwa [Nat.zero_add] at this⟩

theorem gr_tail {w w1 w2 : World} {r : Option Nat} (k : w1.grownBy w2 r) (h : w.grownBy w1 r) : w.grownBy w2 r := gr_trans h k

theorem SOut.strm {b : Nat} {N : Int} {w w' : World} (h : SOut b N w w') : Strm w' b N := h.2

end Go.Bl

namespace Go.Bl
open Go

inductive All2 {α β : Type} (R : α → β → Prop) : List α → List β → Prop
  | nil : All2 R [] []
  | cons {a : α} {b : β} {l : List α} {m : List β} : R a b → All2 R l m → All2 R (a :: l) (b :: m)

theorem All2.len {α β : Type} {R : α → β → Prop} {l : List α} {m : List β} (h : All2 R l m) : l.length = m.length := by induction h <;> simp_all

theorem All2.imp {α β : Type} {R S : α → β → Prop} {l : List α} {m : List β} (h : All2 R l m) (hi : ∀ a b, R a b → S a b) : All2 S l m := by
  induction h with
  | nil => exact .nil
  | cons h _ ih => exact .cons (hi _ _ h) ih

theorem All2.snoc {α β : Type} {R : α → β → Prop} {l : List α} {m : List β} {a : α} {b : β} (h : All2 R l m) (hab : R a b) : All2 R (l ++ [a]) (m ++ [b]) := by
  induction h with
  | nil => exact .cons hab .nil
  | cons h _ ih => exact .cons h ih

theorem All2.set_ {α β : Type} {R : α → β → Prop} {l : List α} {m : List β} {a : α} {b : β} (h : All2 R l m) (i : Nat) (hab : R a b) : All2 R (l.set i a) (m.set i b) := by
  induction h generalizing i with
  | nil => exact .nil
  | cons h h2 ih => cases i with
    | zero => exact .cons hab h2
    | succ i => exact .cons h (ih i)

/-- a flat row's element ρ holds a slice and reads as α -/
class NestOf (ρ α : Type) [Enc ρ] [Flat ρ] [Enc α] where
  adr : ρ → Option Addr
  ok : World → Nat → ρ → α → Prop
  gr : ∀ {w w' : World} {lo : Nat} {r : ρ} {x : α} {q : Option Nat}, ok w lo r x → w.grownBy w' q → (∀ g, blk (adr r) = some g → q ≠ some g) → ok w' lo r x
  rep : ∀ {w : World} {lo : Nat} {r : ρ} {x : α} {cs : List Value}, ok w lo r x → Enc.rep w lo r cs → Enc.rep w lo x cs
  lt : ∀ {w : World} {lo : Nat} {r : ρ} {x : α} {g : Nat}, ok w lo r x → blk (adr r) = some g → lo ≤ g ∧ g < w.heap.size

section
variable {ρ α : Type} [Enc ρ] [Flat ρ] [Enc α] [NestOf ρ α]

def NOk (ρ : Type) {α : Type} [Enc ρ] [Flat ρ] [Enc α] [NestOf ρ α] (w : World) (lo : Nat) (A : Option Addr) (r : ρ) (x : α) : Prop := NestOf.ok w lo r x ∧ ∀ g, blk (NestOf.adr α r) = some g → blk A ≠ some g
/-- a row of one's own whose elements hold slices -/
def OwnN (ρ : Type) {α : Type} [Enc ρ] [Flat ρ] [Enc α] [NestOf ρ α] (w : World) (lo : Nat) (e : TypeId) (A : Option Addr) (c : Nat) (l : List α) : Prop :=
  ∃ raws : List ρ, Own w lo e A c raws ∧ All2 (NOk ρ w lo A) raws l

variable {w w' : World} {lo : Nat} {e : TypeId} {A : Option Addr} {c : Nat} {l : List α}

theorem row_nest {raws : List ρ} {cs : List Value} (h : Row w lo raws cs) (ha : All2 (NOk ρ w lo A) raws l) : Row w lo l cs := by
  induction ha generalizing cs with
  | nil => exact h
  | cons hx _ ih =>
    obtain ⟨c1, c2, rfl, h1, h2⟩ := h
    exact ⟨c1, c2, rfl, NestOf.rep hx.1 h1, ih h2⟩

theorem OwnN.nil (w : World) (lo : Nat) (e : TypeId) : OwnN ρ w lo e none 0 ([] : List α) := ⟨[], Own.nil w lo e, .nil⟩

theorem OwnN.sl (h : OwnN ρ w lo e A c l) : Sl w lo A l := by
  obtain ⟨raws, ho, ha⟩ := h
  obtain ⟨hm, cs, hr, hl⟩ := ho.sl
  exact ⟨by rw [← ha.len]; exact hm, cs, row_nest hr ha, hl⟩

theorem OwnN.len (h : OwnN ρ w lo e A c l) : l.length ≤ maxLen := h.sl.1

theorem OwnN.keep {q : Option Nat} (h : OwnN ρ w lo e A c l) (hg : w.grownBy w' q) (hq : ∀ g, q = some g → g < lo) : OwnN ρ w' lo e A c l := by
  obtain ⟨raws, ho, ha⟩ := h
  exact ⟨raws, ho.keep hg hq, ha.imp fun r x hx => ⟨NestOf.gr hx.1 hg fun g hb e => by have := (NestOf.lt hx.1 hb).1; have := hq g e; omega, hx.2⟩⟩

theorem OwnN.pure (h : OwnN ρ w lo e A c l) (hg : w.grownBy w' none) : OwnN ρ w' lo e A c l := h.keep hg (fun g e => by cases e)

theorem OwnN.s {b : Nat} {N : Int} (h : OwnN ρ w lo e A c l) (k : SOut b N w w') (hb : b < lo) : OwnN ρ w' lo e A c l := h.keep k.1 (fun g e => by cases e; exact hb)

theorem OwnN.push {raws : List ρ} {A' : Option Addr} {c' : Nat} {r : ρ} {x : α} (ha : All2 (NOk ρ w lo A) raws l) (ho' : Own w' lo e A' c' (raws ++ [r])) (hG : Grew A A' w w') (hx : NOk ρ w lo A r x) : OwnN ρ w' lo e A' c' (l ++ [x]) := by
  refine ⟨raws ++ [r], ho', (ha.snoc hx).imp fun r x hx => ⟨NestOf.gr hx.1 hG.1 fun g hb => hx.2 g hb, fun g hb => ?_⟩⟩
  rcases hG.2 with h | h
  · rw [h]; exact hx.2 g hb
  · rw [h]; have := (NestOf.lt hx.1 hb).2; intro e; injection e; omega
end

/-- a slice as it lies in a row -/
structure RawS where
  A : Option Addr
  n : Nat
  c : Nat

instance : Enc RawS where
  sz := 1
  rep := fun _ _ p cs => cs = [.slice p.A p.n p.c]
  len := by rintro w lo x cs rfl; rfl
  one := by rintro w lo x cs rfl u hu; simp at hu; rcases hu with rfl; rfl
  keep := fun h _ => h
  mono := fun h _ => h

instance : Flat RawS := ⟨fun h => h, by decide⟩

instance {α : Type} [Enc α] : Enc (List α) where
  sz := 1
  rep := fun w lo l cs => ∃ A c, cs = [.slice A l.length c] ∧ l.length ≤ c ∧ Sl w lo A l
  len := by rintro w lo x cs ⟨A, c, rfl, _, _⟩; rfl
  one := by rintro w lo x cs ⟨A, c, rfl, _, _⟩ u hu; simp at hu; rcases hu with rfl; rfl
  keep := fun ⟨A, c, h1, h0, h2⟩ hk => ⟨A, c, h1, h0, h2.keep hk⟩
  mono := fun ⟨A, c, h1, h0, h2⟩ hl => ⟨A, c, h1, h0, h2.mono hl⟩

instance {α : Type} [Enc α] [Flat α] : NestOf RawS (List α) where
  adr := fun r => r.A
  ok := fun w lo r x => r.n = x.length ∧ r.n ≤ r.c ∧ Sl w lo r.A x ∧ ∀ g, blk r.A = some g → lo ≤ g ∧ g < w.heap.size
  gr := fun ⟨h1, h0, h2, h3⟩ hg hq => ⟨h1, h0, h2.ne hg hq, fun g hb => ⟨(h3 g hb).1, Nat.lt_of_lt_of_le (h3 g hb).2 hg.size⟩⟩
  rep := fun {_ _ r _ _} ⟨h1, h0, h2, _⟩ hr => ⟨r.A, r.c, by rw [← h1]; exact hr, by rw [← h1]; exact h0, h2⟩
  lt := fun ⟨_, _, _, h3⟩ hb => h3 _ hb

end Go.Bl

namespace Go.Bl
open Go

structure Pt where
  x : Int
  y : Int
deriving DecidableEq, Inhabited

instance : Enc Pt where
  sz := 2
  rep := fun _ _ p cs => cs = [.int .i64 p.x, .int .i64 p.y]
  len := by rintro w lo x cs rfl; rfl
  one := by rintro w lo x cs rfl u hu; simp at hu; rcases hu with rfl | rfl <;> rfl
  keep := fun h _ => h
  mono := fun h _ => h

theorem Pt.ext {a b : Pt} (h : a.x = b.x) (h2 : a.y = b.y) : a = b := by cases a; cases b; simp_all

instance : Flat Pt := ⟨fun h => h, by decide⟩

/-- a path as it lies in a row: the address of its points, how many, the room, closed -/
structure RawP where
  A : Option Addr
  n : Nat
  c : Nat
  b : Bool

instance : Enc RawP where
  sz := 2
  rep := fun _ _ p cs => cs = [.slice p.A p.n p.c, .bool p.b]
  len := by rintro w lo x cs rfl; rfl
  one := by rintro w lo x cs rfl u hu; simp at hu; rcases hu with rfl | rfl <;> rfl
  keep := fun h _ => h
  mono := fun h _ => h

instance : Flat RawP := ⟨fun h => h, by decide⟩

structure PathV where
  pts : List Pt
  cl : Bool
deriving DecidableEq, Inhabited

instance : Enc PathV where
  sz := 2
  rep := fun w lo p cs => ∃ A c, cs = [.slice A p.pts.length c, .bool p.cl] ∧ p.pts.length ≤ c ∧ Sl w lo A p.pts
  len := by rintro w lo x cs ⟨A, c, rfl, _, _⟩; rfl
  one := by rintro w lo x cs ⟨A, c, rfl, _, _⟩ u hu; simp at hu; rcases hu with rfl | rfl <;> rfl
  keep := fun ⟨A, c, h1, h0, h2⟩ hk => ⟨A, c, h1, h0, h2.keep hk⟩
  mono := fun ⟨A, c, h1, h0, h2⟩ hl => ⟨A, c, h1, h0, h2.mono hl⟩

instance : NestOf RawP PathV where
  adr := fun r => r.A
  ok := fun w lo r x => r.n = x.pts.length ∧ r.b = x.cl ∧ r.n ≤ r.c ∧ Sl w lo r.A x.pts ∧ ∀ g, blk r.A = some g → lo ≤ g ∧ g < w.heap.size
  gr := fun ⟨h1, h2, h0, h3, h4⟩ hg hq => ⟨h1, h2, h0, h3.ne hg hq, fun g hb => ⟨(h4 g hb).1, Nat.lt_of_lt_of_le (h4 g hb).2 hg.size⟩⟩
  rep := fun {_ _ r _ _} ⟨h1, h2, h0, h3, _⟩ hr => ⟨r.A, r.c, by rw [← h1, ← h2]; exact hr, by rw [← h1]; exact h0, h3⟩
  lt := fun ⟨_, _, _, _, h4⟩ hb => h4 _ hb

structure Vis where
  path : Int
  start : Int
  back : Bool
deriving DecidableEq, Inhabited

instance : Enc Vis where
  sz := 3
  rep := fun _ _ p cs => cs = [.int .i64 p.path, .int .i64 p.start, .bool p.back]
  len := by rintro w lo x cs rfl; rfl
  one := by rintro w lo x cs rfl u hu; simp at hu; rcases hu with rfl | rfl | rfl <;> rfl
  keep := fun h _ => h
  mono := fun h _ => h

instance : Flat Vis := ⟨fun h => h, by decide⟩

/-! ### what is asked -/

def farP (p : Pt) : Bool := outB p.x (-100000) 100000 || outB p.y (-100000) 100000

def pathF (p : PathV) : Int :=
  if p.pts.length = 0 then 8 else if 500 < p.pts.length then 2 else if p.cl = true ∧ p.pts.length < 3 then 3 else if p.pts.any farP then 1 else 0
/-- the first that is not 0 -/
def firstF (l : List Int) : Int := orL l

def pathsF (l : List PathV) : Int := if 200 < l.length then 2 else orL (l.map pathF)
/-- of a visit whose path is there -/
def formF (p : PathV) (v : Vis) : Int :=
  if (p.cl && v.back || !p.cl && v.start != 0) = true then 3 else spanF v.start 0 (p.pts.length - 1)

def hasP (b : List Vis) (p : Int) : Bool := b.any fun x => x.path == p

def visitF (l : List PathV) (before : List Vis) (v : Vis) : Int :=
  if inB v.path 0 (l.length - 1) = false then 1 else if hasP before v.path then 6 else formF (l.getD v.path.toNat default) v

def visitsF (l : List PathV) : List Vis → List Vis → Int
  | _, [] => 0
  | b, v :: o => orS (visitF l b v) (visitsF l (b ++ [v]) o)

/-- which paths are seen -/
def seenL (n : Nat) (b : List Vis) : List Bool := (List.range n).map fun (i : Nat) => hasP b (i : Int)

instance : Enc Bool where
  sz := 1
  rep := fun _ _ x cs => cs = [.bool x]
  len := by rintro w lo x cs rfl; rfl
  one := by rintro w lo x cs rfl u hu; simp at hu; subst hu; rfl
  keep := fun h _ => h
  mono := fun h _ => h

instance : Flat Bool := ⟨fun h => h, by decide⟩

theorem Own.cell_bool {w : World} {lo : Nat} {e : TypeId} {g c : Nat} {l : List Bool} (h : Own w lo e (some ⟨g, 0, none⟩) c l) {j : Nat} (hj : j < l.length) : w.cell? ⟨g, j, none⟩ = some (.bool l[j]) := by
  obtain ⟨c1, rfl, hc⟩ := h.cell_at (by decide) hj
  have := hc 0 _ rfl
  rwa [show Enc.sz Bool = 1 from rfl, Nat.mul_one, Nat.add_zero] at this

theorem Own.set_bool {w : World} {lo : Nat} {e : TypeId} {g c : Nat} {l : List Bool} (h : Own w lo e (some ⟨g, 0, none⟩) c l) {j : Nat} (hj : j < l.length) (v : Bool) : Own (w.setCell ⟨g, j, none⟩ (.bool v)) lo e (some ⟨g, 0, none⟩) c (l.set j v) := by
  have := h.put hj (j := 0) (x := v) (u := .bool v) (by decide) (by rintro c1 rfl; rfl)
  rwa [show Enc.sz Bool = 1 from rfl, Nat.mul_one, Nat.add_zero] at this
def orderF (l : List PathV) (o : List Vis) : Int := orS (pathsF l) (if o.length ≠ l.length then 3 else visitsF l [] o)

def oneF (l : List PathV) (v : Vis) : Int := orS (pathsF l) (visitF l [] v)
/-- the points that a visit prints -/
def turned (p : PathV) (v : Vis) : List Pt :=
  let out := p.pts.drop v.start.toNat ++ p.pts.take v.start.toNat
  if p.cl then out ++ out.take 1 else if v.back then out.reverse else out

def printedV (l : List PathV) (v : Vis) : List Pt := turned (l.getD v.path.toNat default) v

def distP (a b : Pt) : Int := max (max (a.x - b.x) (b.x - a.x)) (max (a.y - b.y) (b.y - a.y))

def firstP (l : List PathV) (v : Vis) : Pt := (printedV l v).headD default

def lastP (l : List PathV) (v : Vis) : Pt := (printedV l v).getLastD default

def travelV (l : List PathV) : Pt → List Vis → Int
  | _, [] => 0
  | at_, v :: o => distP at_ (firstP l v) + travelV l (lastP l v) o

end Go.Bl

namespace Go.Bl
open Go
variable {P : Program}

end Go.Bl
