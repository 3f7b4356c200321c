/- Contracts of functions that this seat's laws reach, each: what one call returns and what it leaves in memory; no condition beyond each theorem's own hypotheses. -/
import Derived.Test.YtkcchcnljanloaaGreatZqTree
import Derived.Deep.DeepCutAuto
import Derived.Laws.Cover1
set_option linter.unusedVariables false
set_option linter.unusedSimpArgs false
namespace Go.Bl
open Go Go.RowKit
variable {P : Program}

/-- a step that writes at most one old block, of which p holds -/
def Wrt (p : Nat → Prop) (w w' : World) : Prop := ∃ r, w.grownBy w' r ∧ ∀ g, r = some g → p g

theorem Wrt.pure {p : Nat → Prop} {w w' : World} (h : w.grownBy w' none) : Wrt p w w' := ⟨none, h, fun g e => by cases e⟩

theorem Wrt.one {p : Nat → Prop} {w w' : World} {g : Nat} (h : w.grownBy w' (some g)) (hp : p g) : Wrt p w w' := ⟨some g, h, fun g' e => by cases e; exact hp⟩

theorem Wrt.mono {p q : Nat → Prop} {w w' : World} (h : Wrt p w w') (hpq : ∀ g, p g → q g) : Wrt q w w' := let ⟨r, h1, h2⟩ := h; ⟨r, h1, fun g e => hpq g (h2 g e)⟩

theorem Sl.wrt {α : Type} [Enc α] {p : Nat → Prop} {w w' : World} {lo : Nat} {A : Option Addr} {l : List α} (h : Sl w lo A l) (hw : Wrt p w w') (hp : ∀ g, p g → g < lo) : Sl w' lo A l := let ⟨_, h1, h2⟩ := hw; h.gr h1 fun g e => hp g (h2 g e)

theorem Own.wrt {α : Type} [Enc α] {p : Nat → Prop} {w w' : World} {lo : Nat} {e : TypeId} {A : Option Addr} {c : Nat} {l : List α} (h : Own w lo e A c l) (hw : Wrt p w w') (hp : ∀ g, p g → g < lo) : Own w' lo e A c l := let ⟨_, h1, h2⟩ := hw; h.keep h1 fun g e => hp g (h2 g e)

theorem Wrt.cell {p : Nat → Prop} {w w' : World} {q : Addr} {v : Value} (hw : Wrt p w w') (h : w.cell? q = some v) (hp : ¬ p q.block) : w'.cell? q = some v := let ⟨_, h1, h2⟩ := hw; gr_cell h1 h (fun e => hp (h2 _ e))

/-- a fact of each operation's value that stays -/
def Stab (M : (Nat → Bool) → World → World → Prop) : Nat → List (Value → World → Prop) → Prop
  | _, [] => True
  | i, φ :: r => (∀ (m : Nat → Bool) v w w', m i = true → M m w w' → φ v w → φ v w') ∧ Stab M (i + 1) r

theorem Stab.at_ {M : (Nat → Bool) → World → World → Prop} : ∀ {Φ : List (Value → World → Prop)} {j : Nat}, Stab M j Φ → ∀ (i : Nat) (m : Nat → Bool) v w w', m (j + i) = true → M m w w' → Φ.getD i (fun _ _ => False) v w → Φ.getD i (fun _ _ => False) v w'
  | [], _, _, i, _, _, _, _, _, _, h => by simp at h
  | _ :: _, _, hs, 0, m, v, w, w', hm, hM, h => hs.1 m v w w' hm hM h
  | _ :: r, j, hs, i + 1, m, v, w, w', hm, hM, h => by
    have := Stab.at_ (Φ := r) hs.2 i m v w w' (by rw [← hm]; congr 1; omega) hM (by simpa using h)
    simpa using this

theorem Stab.ok {M : (Nat → Bool) → World → World → Prop} {Φ : List (Value → World → Prop)} (h : Stab M 0 Φ) : ∀ (i : Nat) (m : Nat → Bool) v w w', m i = true → M m w w' → Φ.getD i (fun _ _ => False) v w → Φ.getD i (fun _ _ => False) v w' := fun i m v w w' hm => h.at_ i m v w w' (by simpa using hm)

def VIs (x : Value) : Value → World → Prop := fun v _ => v = x

def VInt : Value → World → Prop := fun v _ => ∃ r, v = .int .i64 r

def VIntP (p : Int → Prop) : Value → World → Prop := fun v _ => ∃ r, v = .int .i64 r ∧ p r

def VBool : Value → World → Prop := fun v _ => ∃ r, v = .bool r

def VLit {α : Type} [Enc α] (lo n : Nat) : Value → World → Prop := fun v w => ∃ (g : Nat) (l : List α), v = .slice (some ⟨g, 0, none⟩) n n ∧ l.length = n ∧ Sl w lo (some ⟨g, 0, none⟩) l

def VLitI (lo : Nat) (l : List Int) : Value → World → Prop := fun v w => ∃ (g : Nat), v = .slice (some ⟨g, 0, none⟩) l.length l.length ∧ Sl w lo (some ⟨g, 0, none⟩) l

theorem VLit.stab {α : Type} [Enc α] {p : Nat → Prop} {lo n : Nat} {v : Value} {w w' : World} (h : VLit (α := α) lo n v w) (hw : Wrt p w w') (hp : ∀ g, p g → g < lo) : VLit (α := α) lo n v w' := let ⟨g, l, h1, h2, h3⟩ := h; ⟨g, l, h1, h2, h3.wrt hw hp⟩

theorem VLitI.stab {p : Nat → Prop} {lo : Nat} {l : List Int} {v : Value} {w w' : World} (h : VLitI lo l v w) (hw : Wrt p w w') (hp : ∀ g, p g → g < lo) : VLitI lo l v w' := let ⟨g, h1, h3⟩ := h; ⟨g, h1, h3.wrt hw hp⟩

/-- one old or new cell of an open block -/
def Cell (w : World) (g o : Nat) (v : Value) : Prop := w.cell? ⟨g, o, none⟩ = some v ∧ w.frozen? ⟨g, o, none⟩ = false

theorem Cell.gr {w w' : World} {g o : Nat} {v : Value} {r : Option Nat} (h : Cell w g o v) (hg : w.grownBy w' r) (hr : r ≠ some g) : Cell w' g o v := ⟨gr_cell hg h.1 (by simpa using hr), gr_froz hg h.1 (by simpa using hr) h.2⟩

theorem Cell.wrt {p : Nat → Prop} {w w' : World} {g o : Nat} {v : Value} (h : Cell w g o v) (hw : Wrt p w w') (hp : ¬ p g) : Cell w' g o v := let ⟨_, h1, h2⟩ := hw; h.gr h1 (fun e => hp (h2 _ e))

theorem Cell.lt {w : World} {g o : Nat} {v : Value} (h : Cell w g o v) : g < w.heap.size := cell_lt h.1

theorem Cell.set_ {w : World} {g o : Nat} {v : Value} (h : Cell w g o v) (u : Value) : Cell (w.setCell ⟨g, o, none⟩ u) g o u := ⟨World.cell?_setCell_same w _ _ h.1, by rw [World.frozen?_setCell]; exact h.2⟩

theorem Cell.set_ne {w : World} {g o o' : Nat} {v : Value} (h : Cell w g o v) (u : Value) (hne : o' ≠ o) : Cell (w.setCell ⟨g, o', none⟩ u) g o v := ⟨(World.cell?_setCell_other w ⟨g, o', none⟩ ⟨g, o, none⟩ u (by simp only [ne_eq, Addr.mk.injEq, true_and, and_true]; exact hne)).trans h.1, by rw [World.frozen?_setCell]; exact h.2⟩

theorem Cell.new (w : World) (cs : List Value) (t : TypeId) (o : Nat) (v : Value) (h : cs[o]? = some v) (g : Nat) (hg : g = w.heap.size) : Cell (w.alloc (.cells cs.toArray t)) g o v := by
  subst hg
  exact ⟨by rw [cell_of_row _ w.heap.size o _ t (0, 0) (heap_alloc_new w _)]; simpa using h, frozen_of_row _ w.heap.size o _ t (heap_alloc_new w _)⟩

theorem SOut.set {b : Nat} {N : Int} {w w1 : World} {p : Addr} (h : SOut b N w w1) (hb : b < w.heap.size) (hp : w.heap.size ≤ p.block) (v : Value) : SOut b N w (w1.setCell p v) :=
  ⟨gr_set h.1 (.inr hp) v, h.2.gr (r := some p.block) (gr_set (World.grownBy.refl _ _) (.inl rfl) v) (fun g e => by cases e; omega)⟩

theorem SOut.al {b : Nat} {N : Int} {w w1 : World} (h : SOut b N w w1) (o : Obj) : SOut b N w (w1.alloc o) := h.pure (gr_alloc (World.grownBy.refl _ _) o)

theorem SOut.drew {b : Nat} {N : Int} {w w1 : World} (h : SOut b N w w1) : SOut b N w w1.drew := h.pure (gr_drew (World.grownBy.refl _ _))

theorem SOut.drewN {b : Nat} {N : Int} {w w1 : World} (h : SOut b N w w1) (n : Nat) : SOut b N w (w1.drewN n) := h.pure (gr_drewN (World.grownBy.refl _ _) n)

theorem SOut.size {b : Nat} {N : Int} {w w1 : World} (h : SOut b N w w1) : w.heap.size ≤ w1.heap.size := h.1.size
/-- what is written in blocks that are new since w -/
theorem SOut.new {b : Nat} {N : Int} {w w1 w2 : World} (h : SOut b N w w1) (hb : b < w.heap.size) {r : Option Nat} (hg : w1.grownBy w2 r) (hr : ∀ g, r = some g → w.heap.size ≤ g) : SOut b N w w2 :=
  ⟨gr_row h.1 hg hr, h.2.gr hg (fun g e => by have := hr g e; omega)⟩

theorem Own.cell_at {α : Type} [Enc α] {w : World} {lo : Nat} {e : TypeId} {g c : Nat} {l : List α} (h : Own w lo e (some ⟨g, 0, none⟩) c l) (hs : 0 < Enc.sz α) {i : Nat} (hi : i < l.length) :
    ∃ c1, Enc.rep w lo l[i] c1 ∧ ∀ j u, c1[j]? = some u → w.cell? ⟨g, i * Enc.sz α + j, none⟩ = some u := by
  obtain ⟨g', o, c1, hA, _, _, hr, hc⟩ := h.sl.at_ hs hi
  injection hA with hA
  injection hA with e1 e2
  subst e1
  subst e2
  exact ⟨c1, hr, fun j u hu => by have := hc j u hu; rwa [Nat.zero_add] at this⟩

theorem gr_tail {w w1 w2 : World} {r : Option Nat} (k : w1.grownBy w2 r) (h : w.grownBy w1 r) : w.grownBy w2 r := gr_trans h k

theorem heap_set (w : World) (p : Addr) (v : Value) : (w.setCell p v).heap.size = w.heap.size := by simp [World.setCell]

end Go.Bl

namespace Go.Bl
open Go

inductive All2 {α β : Type} (R : α → β → Prop) : List α → List β → Prop
  | nil : All2 R [] []
  | cons {a : α} {b : β} {l : List α} {m : List β} : R a b → All2 R l m → All2 R (a :: l) (b :: m)

theorem All2.len {α β : Type} {R : α → β → Prop} {l : List α} {m : List β} (h : All2 R l m) : l.length = m.length := by induction h <;> simp_all

theorem All2.imp {α β : Type} {R S : α → β → Prop} {l : List α} {m : List β} (h : All2 R l m) (hi : ∀ a b, R a b → S a b) : All2 S l m := by
  induction h with
  | nil => exact .nil
  | cons h _ ih => exact .cons (hi _ _ h) ih

theorem All2.snoc {α β : Type} {R : α → β → Prop} {l : List α} {m : List β} {a : α} {b : β} (h : All2 R l m) (hab : R a b) : All2 R (l ++ [a]) (m ++ [b]) := by
  induction h with
  | nil => exact .cons hab .nil
  | cons h _ ih => exact .cons h ih

theorem All2.set_ {α β : Type} {R : α → β → Prop} {l : List α} {m : List β} {a : α} {b : β} (h : All2 R l m) (i : Nat) (hab : R a b) : All2 R (l.set i a) (m.set i b) := by
  induction h generalizing i with
  | nil => exact .nil
  | cons h h2 ih => cases i with
    | zero => exact .cons hab h2
    | succ i => exact .cons h (ih i)

/-- a flat row's element ρ holds a slice and reads as α -/
class NestOf (ρ α : Type) [Enc ρ] [Flat ρ] [Enc α] where
  adr : ρ → Option Addr
  ok : World → Nat → ρ → α → Prop
  gr : ∀ {w w' : World} {lo : Nat} {r : ρ} {x : α} {q : Option Nat}, ok w lo r x → w.grownBy w' q → (∀ g, blk (adr r) = some g → q ≠ some g) → ok w' lo r x
  rep : ∀ {w : World} {lo : Nat} {r : ρ} {x : α} {cs : List Value}, ok w lo r x → Enc.rep w lo r cs → Enc.rep w lo x cs
  lt : ∀ {w : World} {lo : Nat} {r : ρ} {x : α} {g : Nat}, ok w lo r x → blk (adr r) = some g → lo ≤ g ∧ g < w.heap.size

section
variable {ρ α : Type} [Enc ρ] [Flat ρ] [Enc α] [NestOf ρ α]

def NOk (ρ : Type) {α : Type} [Enc ρ] [Flat ρ] [Enc α] [NestOf ρ α] (w : World) (lo : Nat) (A : Option Addr) (r : ρ) (x : α) : Prop := NestOf.ok w lo r x ∧ ∀ g, blk (NestOf.adr α r) = some g → blk A ≠ some g
/-- a row of one's own whose elements hold slices -/
def OwnN (ρ : Type) {α : Type} [Enc ρ] [Flat ρ] [Enc α] [NestOf ρ α] (w : World) (lo : Nat) (e : TypeId) (A : Option Addr) (c : Nat) (l : List α) : Prop :=
  ∃ raws : List ρ, Own w lo e A c raws ∧ All2 (NOk ρ w lo A) raws l

variable {w w' : World} {lo : Nat} {e : TypeId} {A : Option Addr} {c : Nat} {l : List α}

theorem row_nest {raws : List ρ} {cs : List Value} (h : Row w lo raws cs) (ha : All2 (NOk ρ w lo A) raws l) : Row w lo l cs := by
  induction ha generalizing cs with
  | nil => exact h
  | cons hx _ ih =>
    obtain ⟨c1, c2, rfl, h1, h2⟩ := h
    exact ⟨c1, c2, rfl, NestOf.rep hx.1 h1, ih h2⟩

theorem OwnN.nil (w : World) (lo : Nat) (e : TypeId) : OwnN ρ w lo e none 0 ([] : List α) := ⟨[], Own.nil w lo e, .nil⟩

theorem OwnN.sl (h : OwnN ρ w lo e A c l) : Sl w lo A l := by
  obtain ⟨raws, ho, ha⟩ := h
  obtain ⟨hm, cs, hr, hl⟩ := ho.sl
  exact ⟨by rw [← ha.len]; exact hm, cs, row_nest hr ha, hl⟩

theorem OwnN.len (h : OwnN ρ w lo e A c l) : l.length ≤ maxLen := h.sl.1

theorem OwnN.keep {q : Option Nat} (h : OwnN ρ w lo e A c l) (hg : w.grownBy w' q) (hq : ∀ g, q = some g → g < lo) : OwnN ρ w' lo e A c l := by
  obtain ⟨raws, ho, ha⟩ := h
  exact ⟨raws, ho.keep hg hq, ha.imp fun r x hx => ⟨NestOf.gr hx.1 hg fun g hb e => by have := (NestOf.lt hx.1 hb).1; have := hq g e; omega, hx.2⟩⟩

theorem OwnN.pure (h : OwnN ρ w lo e A c l) (hg : w.grownBy w' none) : OwnN ρ w' lo e A c l := h.keep hg (fun g e => by cases e)

theorem OwnN.s {b : Nat} {N : Int} (h : OwnN ρ w lo e A c l) (k : SOut b N w w') (hb : b < lo) : OwnN ρ w' lo e A c l := h.keep k.1 (fun g e => by cases e; exact hb)

theorem OwnN.push {raws : List ρ} {A' : Option Addr} {c' : Nat} {r : ρ} {x : α} (ha : All2 (NOk ρ w lo A) raws l) (ho' : Own w' lo e A' c' (raws ++ [r])) (hG : Grew A A' w w') (hx : NOk ρ w lo A r x) : OwnN ρ w' lo e A' c' (l ++ [x]) := by
  refine ⟨raws ++ [r], ho', (ha.snoc hx).imp fun r x hx => ⟨NestOf.gr hx.1 hG.1 fun g hb => hx.2 g hb, fun g hb => ?_⟩⟩
  rcases hG.2 with h | h
  · rw [h]; exact hx.2 g hb
  · rw [h]; have := (NestOf.lt hx.1 hb).2; intro e; injection e; omega
end

/-- a slice as it lies in a row -/
structure RawS where
  A : Option Addr
  n : Nat
  c : Nat

instance : Enc RawS where
  sz := 1
  rep := fun _ _ p cs => cs = [.slice p.A p.n p.c]
  len := by rintro w lo x cs rfl; rfl
  one := by rintro w lo x cs rfl u hu; simp at hu; rcases hu with rfl; rfl
  keep := fun h _ => h
  mono := fun h _ => h

instance : Flat RawS := ⟨fun h => h, by decide⟩

instance {α : Type} [Enc α] : Enc (List α) where
  sz := 1
  rep := fun w lo l cs => ∃ A c, cs = [.slice A l.length c] ∧ l.length ≤ c ∧ Sl w lo A l
  len := by rintro w lo x cs ⟨A, c, rfl, _, _⟩; rfl
  one := by rintro w lo x cs ⟨A, c, rfl, _, _⟩ u hu; simp at hu; rcases hu with rfl; rfl
  keep := fun ⟨A, c, h1, h0, h2⟩ hk => ⟨A, c, h1, h0, h2.keep hk⟩
  mono := fun ⟨A, c, h1, h0, h2⟩ hl => ⟨A, c, h1, h0, h2.mono hl⟩

instance {α : Type} [Enc α] [Flat α] : NestOf RawS (List α) where
  adr := fun r => r.A
  ok := fun w lo r x => r.n = x.length ∧ r.n ≤ r.c ∧ Sl w lo r.A x ∧ ∀ g, blk r.A = some g → lo ≤ g ∧ g < w.heap.size
  gr := fun ⟨h1, h0, h2, h3⟩ hg hq => ⟨h1, h0, h2.ne hg hq, fun g hb => ⟨(h3 g hb).1, Nat.lt_of_lt_of_le (h3 g hb).2 hg.size⟩⟩
  rep := fun {_ _ r _ _} ⟨h1, h0, h2, _⟩ hr => ⟨r.A, r.c, by rw [← h1]; exact hr, by rw [← h1]; exact h0, h2⟩
  lt := fun ⟨_, _, _, h3⟩ hb => h3 _ hb

end Go.Bl

namespace Go.Bl
open Go

structure Pt where
  x : Int
  y : Int
deriving DecidableEq, Inhabited

instance : Enc Pt where
  sz := 2
  rep := fun _ _ p cs => cs = [.int .i64 p.x, .int .i64 p.y]
  len := by rintro w lo x cs rfl; rfl
  one := by rintro w lo x cs rfl u hu; simp at hu; rcases hu with rfl | rfl <;> rfl
  keep := fun h _ => h
  mono := fun h _ => h

instance : Flat Pt := ⟨fun h => h, by decide⟩

/-- a path as it lies in a row: the address of its points, how many, the room, closed -/
structure RawP where
  A : Option Addr
  n : Nat
  c : Nat
  b : Bool

instance : Enc RawP where
  sz := 2
  rep := fun _ _ p cs => cs = [.slice p.A p.n p.c, .bool p.b]
  len := by rintro w lo x cs rfl; rfl
  one := by rintro w lo x cs rfl u hu; simp at hu; rcases hu with rfl | rfl <;> rfl
  keep := fun h _ => h
  mono := fun h _ => h

instance : Flat RawP := ⟨fun h => h, by decide⟩

structure PathV where
  pts : List Pt
  cl : Bool
deriving DecidableEq, Inhabited

instance : Enc PathV where
  sz := 2
  rep := fun w lo p cs => ∃ A c, cs = [.slice A p.pts.length c, .bool p.cl] ∧ p.pts.length ≤ c ∧ Sl w lo A p.pts
  len := by rintro w lo x cs ⟨A, c, rfl, _, _⟩; rfl
  one := by rintro w lo x cs ⟨A, c, rfl, _, _⟩ u hu; simp at hu; rcases hu with rfl | rfl <;> rfl
  keep := fun ⟨A, c, h1, h0, h2⟩ hk => ⟨A, c, h1, h0, h2.keep hk⟩
  mono := fun ⟨A, c, h1, h0, h2⟩ hl => ⟨A, c, h1, h0, h2.mono hl⟩

instance : NestOf RawP PathV where
  adr := fun r => r.A
  ok := fun w lo r x => r.n = x.pts.length ∧ r.b = x.cl ∧ r.n ≤ r.c ∧ Sl w lo r.A x.pts ∧ ∀ g, blk r.A = some g → lo ≤ g ∧ g < w.heap.size
  gr := fun ⟨h1, h2, h0, h3, h4⟩ hg hq => ⟨h1, h2, h0, h3.ne hg hq, fun g hb => ⟨(h4 g hb).1, Nat.lt_of_lt_of_le (h4 g hb).2 hg.size⟩⟩
  rep := fun {_ _ r _ _} ⟨h1, h2, h0, h3, _⟩ hr => ⟨r.A, r.c, by rw [← h1, ← h2]; exact hr, by rw [← h1]; exact h0, h3⟩
  lt := fun ⟨_, _, _, _, h4⟩ hb => h4 _ hb

structure Vis where
  path : Int
  start : Int
  back : Bool
deriving DecidableEq, Inhabited

instance : Enc Vis where
  sz := 3
  rep := fun _ _ p cs => cs = [.int .i64 p.path, .int .i64 p.start, .bool p.back]
  len := by rintro w lo x cs rfl; rfl
  one := by rintro w lo x cs rfl u hu; simp at hu; rcases hu with rfl | rfl | rfl <;> rfl
  keep := fun h _ => h
  mono := fun h _ => h

instance : Flat Vis := ⟨fun h => h, by decide⟩

/-! ### what is asked -/

def farP (p : Pt) : Bool := outB p.x (-100000) 100000 || outB p.y (-100000) 100000

def pathF (p : PathV) : Int :=
  if p.pts.length = 0 then 8 else if 500 < p.pts.length then 2 else if p.cl = true ∧ p.pts.length < 3 then 3 else if p.pts.any farP then 1 else 0
/-- the first that is not 0 -/
def firstF (l : List Int) : Int := orL l

def pathsF (l : List PathV) : Int := if 200 < l.length then 2 else orL (l.map pathF)
/-- of a visit whose path is there -/
def formF (p : PathV) (v : Vis) : Int :=
  if (p.cl && v.back || !p.cl && v.start != 0) = true then 3 else spanF v.start 0 (p.pts.length - 1)

def hasP (b : List Vis) (p : Int) : Bool := b.any fun x => x.path == p

def visitF (l : List PathV) (before : List Vis) (v : Vis) : Int :=
  if inB v.path 0 (l.length - 1) = false then 1 else if hasP before v.path then 6 else formF (l.getD v.path.toNat default) v

def visitsF (l : List PathV) : List Vis → List Vis → Int
  | _, [] => 0
  | b, v :: o => orS (visitF l b v) (visitsF l (b ++ [v]) o)

/-- which paths are seen -/
def seenL (n : Nat) (b : List Vis) : List Bool := (List.range n).map fun (i : Nat) => hasP b (i : Int)

instance : Enc Bool where
  sz := 1
  rep := fun _ _ x cs => cs = [.bool x]
  len := by rintro w lo x cs rfl; rfl
  one := by rintro w lo x cs rfl u hu; simp at hu; subst hu; rfl
  keep := fun h _ => h
  mono := fun h _ => h

instance : Flat Bool := ⟨fun h => h, by decide⟩

theorem Own.cell_bool {w : World} {lo : Nat} {e : TypeId} {g c : Nat} {l : List Bool} (h : Own w lo e (some ⟨g, 0, none⟩) c l) {j : Nat} (hj : j < l.length) : w.cell? ⟨g, j, none⟩ = some (.bool l[j]) := by
  obtain ⟨c1, rfl, hc⟩ := h.cell_at (by decide) hj
  have := hc 0 _ rfl
  rwa [show Enc.sz Bool = 1 from rfl, Nat.mul_one, Nat.add_zero] at this

theorem Own.set_bool {w : World} {lo : Nat} {e : TypeId} {g c : Nat} {l : List Bool} (h : Own w lo e (some ⟨g, 0, none⟩) c l) {j : Nat} (hj : j < l.length) (v : Bool) : Own (w.setCell ⟨g, j, none⟩ (.bool v)) lo e (some ⟨g, 0, none⟩) c (l.set j v) := by
  have := h.put hj (j := 0) (x := v) (u := .bool v) (by decide) (by rintro c1 rfl; rfl)
  rwa [show Enc.sz Bool = 1 from rfl, Nat.mul_one, Nat.add_zero] at this
def orderF (l : List PathV) (o : List Vis) : Int := orS (pathsF l) (if o.length ≠ l.length then 3 else visitsF l [] o)

def oneF (l : List PathV) (v : Vis) : Int := orS (pathsF l) (visitF l [] v)
/-- the points that a visit prints -/
def turned (p : PathV) (v : Vis) : List Pt :=
  let out := p.pts.drop v.start.toNat ++ p.pts.take v.start.toNat
  if p.cl then out ++ out.take 1 else if v.back then out.reverse else out

def printedV (l : List PathV) (v : Vis) : List Pt := turned (l.getD v.path.toNat default) v

def distP (a b : Pt) : Int := max (max (a.x - b.x) (b.x - a.x)) (max (a.y - b.y) (b.y - a.y))

def firstP (l : List PathV) (v : Vis) : Pt := (printedV l v).headD default

def lastP (l : List PathV) (v : Vis) : Pt := (printedV l v).getLastD default

def travelV (l : List PathV) : Pt → List Vis → Int
  | _, [] => 0
  | at_, v :: o => distP at_ (firstP l v) + travelV l (lastP l v) o

end Go.Bl

namespace Go.Bl
open Go

structure V3 where
  x : Int
  y : Int
  z : Int
deriving DecidableEq

instance : Inhabited V3 := ⟨⟨0, 0, 0⟩⟩

structure Fc where
  a : Int
  b : Int
  c : Int
deriving DecidableEq, Inhabited

structure Sd where
  u : Int
  v : Int
deriving DecidableEq, Inhabited

instance : Enc V3 where
  sz := 3
  rep := fun _ _ p cs => cs = [.int .i64 p.x, .int .i64 p.y, .int .i64 p.z]
  len := by rintro w lo x cs rfl; rfl
  one := by rintro w lo x cs rfl u hu; simp at hu; rcases hu with rfl | rfl | rfl <;> rfl
  keep := fun h _ => h
  mono := fun h _ => h

instance : Flat V3 := ⟨fun h => h, by decide⟩

instance : Enc Fc where
  sz := 3
  rep := fun _ _ p cs => cs = [.int .i64 p.a, .int .i64 p.b, .int .i64 p.c]
  len := by rintro w lo x cs rfl; rfl
  one := by rintro w lo x cs rfl u hu; simp at hu; rcases hu with rfl | rfl | rfl <;> rfl
  keep := fun h _ => h
  mono := fun h _ => h

instance : Flat Fc := ⟨fun h => h, by decide⟩

instance : Enc Sd where
  sz := 2
  rep := fun _ _ p cs => cs = [.int .i64 p.u, .int .i64 p.v]
  len := by rintro w lo x cs rfl; rfl
  one := by rintro w lo x cs rfl u hu; simp at hu; rcases hu with rfl | rfl <;> rfl
  keep := fun h _ => h
  mono := fun h _ => h

instance : Flat Sd := ⟨fun h => h, by decide⟩

structure MeshV where
  vs : List V3
  fs : List Fc
deriving DecidableEq, Inhabited

/-- no coordinate is beyond K -/
def Bd (K : Int) (v : V3) : Prop := (-K ≤ v.x ∧ v.x ≤ K) ∧ (-K ≤ v.y ∧ v.y ≤ K) ∧ (-K ≤ v.z ∧ v.z ≤ K)

theorem mul_bd3 {a b K : Int} (ha : -K ≤ a ∧ a ≤ K) (hb : -K ≤ b ∧ b ≤ K) : -(K * K) ≤ a * b ∧ a * b ≤ K * K := by
  have h1 : a.natAbs ≤ K.natAbs := by omega
  have h2 : b.natAbs ≤ K.natAbs := by omega
  have h3 := Nat.mul_le_mul h1 h2
  rw [← Int.natAbs_mul, ← Int.natAbs_mul] at h3
  have h4 : 0 ≤ K * K := Int.mul_nonneg (by omega) (by omega)
  generalize a * b = p at *
  generalize K * K = q at *
  omega

theorem mul_bd4 {a b K L : Int} (ha : -K ≤ a ∧ a ≤ K) (hb : -L ≤ b ∧ b ≤ L) : -(K * L) ≤ a * b ∧ a * b ≤ K * L := by
  have h1 : a.natAbs ≤ K.natAbs := by omega
  have h2 : b.natAbs ≤ L.natAbs := by omega
  have h3 := Nat.mul_le_mul h1 h2
  rw [← Int.natAbs_mul, ← Int.natAbs_mul] at h3
  have h4 : 0 ≤ K * L := Int.mul_nonneg (by omega) (by omega)
  generalize a * b = p at *
  generalize K * L = q at *
  omega

def lessV (a b : V3) : V3 := ⟨a.x - b.x, a.y - b.y, a.z - b.z⟩

def crossV (a b : V3) : V3 := ⟨a.y * b.z - a.z * b.y, a.z * b.x - a.x * b.z, a.x * b.y - a.y * b.x⟩

def dotV (a b : V3) : Int := a.x * b.x + a.y * b.y + a.z * b.z

theorem Bd.less {K : Int} {a b : V3} (ha : Bd K a) (hb : Bd K b) : Bd (K + K) (lessV a b) := by
  unfold Bd lessV at *; simp only; omega

theorem Bd.cross {K : Int} {a b : V3} (ha : Bd K a) (hb : Bd K b) : Bd (K * K + K * K) (crossV a b) := by
  obtain ⟨a1, a2, a3⟩ := ha
  obtain ⟨b1, b2, b3⟩ := hb
  have h1 := mul_bd3 a1 b2
  have h2 := mul_bd3 a1 b3
  have h3 := mul_bd3 a2 b1
  have h4 := mul_bd3 a2 b3
  have h5 := mul_bd3 a3 b1
  have h6 := mul_bd3 a3 b2
  unfold Bd crossV
  simp only
  generalize K * K = q at *
  omega

theorem Bd.mono {K L : Int} {v : V3} (h : Bd K v) (hl : K ≤ L) : Bd L v := by unfold Bd at *; omega

def inI (n : Nat) (i : Int) : Bool := decide (0 ≤ i) && decide (i < n)

def farZ (n : Int) : Bool := decide (n < -100000) || decide (100000 < n)

def farV (v : V3) : Bool := farZ v.x || farZ v.y || farZ v.z

theorem farV_no {v : V3} (h : farV v = false) : Bd 100000 v := by
  unfold farV farZ at h
  simp at h
  unfold Bd; omega

def atV (vs : List V3) (i : Int) : V3 := vs.getD i.toNat default

def normV (vs : List V3) (f : Fc) : V3 := crossV (lessV (atV vs f.b) (atV vs f.a)) (lessV (atV vs f.c) (atV vs f.a))

def inF (n : Nat) (f : Fc) : Bool := inI n f.a && inI n f.b && inI n f.c

def faceF (vs : List V3) (f : Fc) : Int := if inF vs.length f then (if normV vs f = ⟨0, 0, 0⟩ then 3 else 0) else 8

def facesF (vs : List V3) : List Fc → Int
  | [] => 0
  | f :: r => if faceF vs f = 0 then facesF vs r else faceF vs f

def sdsOf (f : Fc) : List Sd := [⟨f.a, f.b⟩, ⟨f.b, f.c⟩, ⟨f.c, f.a⟩]

def allS (fs : List Fc) : List Sd := fs.flatMap sdsOf

def meshF (m : MeshV) : Int :=
  if m.fs = [] then 8 else if 1000 < m.vs.length ∨ 1000 < m.fs.length then 2 else if m.vs.any farV then 1 else
    if facesF m.vs m.fs = 0 then (if (allS m.fs).Nodup then 0 else 6) else facesF m.vs m.fs

theorem norm_eq {vs : List V3} {f : Fc} (h : f.a = f.b ∨ f.b = f.c ∨ f.c = f.a) : normV vs f = ⟨0, 0, 0⟩ := by
  have e : ∀ v : V3, lessV v v = ⟨0, 0, 0⟩ := fun v => by simp [lessV]
  unfold normV
  rcases h with h | h | h
  · rw [h, e]; simp [crossV]
  · rw [h]; simp [crossV, Int.mul_comm, Int.sub_self]
  · rw [h, e]; simp [crossV]

theorem atV_bd {vs : List V3} (h : vs.any farV = false) (i : Int) : Bd 100000 (atV vs i) := by
  unfold atV
  rw [List.getD_eq_getElem?_getD]
  cases h2 : vs[i.toNat]? with
  | none => simp [Bd, show (default : V3) = ⟨0, 0, 0⟩ from rfl]
  | some v =>
    refine farV_no ?_
    have := List.any_eq_false.1 h v (List.mem_of_getElem? h2)
    simpa using this

theorem norm_bd {vs : List V3} (h : vs.any farV = false) (f : Fc) : Bd 80000000000 (normV vs f) :=
  (((atV_bd h f.b).less (atV_bd h f.a)).cross ((atV_bd h f.c).less (atV_bd h f.a)))

theorem Sl.v3 {w : World} {lo : Nat} {A : Option Addr} {l : List V3} (h : Sl w lo A l) (hn : 0 < l.length) : ∃ g o, A = some ⟨g, o, none⟩ ∧ lo ≤ g ∧ g < w.heap.size ∧
    ∀ k (hk : k < l.length), w.cell? ⟨g, o + k * 3, none⟩ = some (.int .i64 l[k].x) ∧ w.cell? ⟨g, o + k * 3 + 1, none⟩ = some (.int .i64 l[k].y) ∧ w.cell? ⟨g, o + k * 3 + 2, none⟩ = some (.int .i64 l[k].z) := by
  obtain ⟨g, o, _, rfl, h1, h2, _, _⟩ := h.at_ (by decide) hn
  refine ⟨g, o, rfl, h1, h2, fun k hk => ?_⟩
  obtain ⟨g', o', c, e, _, _, rfl, hc⟩ := h.at_ (by decide) hk
  cases e
  exact ⟨hc 0 _ rfl, hc 1 _ rfl, hc 2 _ rfl⟩

theorem Sl.fc {w : World} {lo : Nat} {A : Option Addr} {l : List Fc} (h : Sl w lo A l) (hn : 0 < l.length) : ∃ g o, A = some ⟨g, o, none⟩ ∧ lo ≤ g ∧ g < w.heap.size ∧
    ∀ k (hk : k < l.length), w.cell? ⟨g, o + k * 3, none⟩ = some (.int .i64 l[k].a) ∧ w.cell? ⟨g, o + k * 3 + 1, none⟩ = some (.int .i64 l[k].b) ∧ w.cell? ⟨g, o + k * 3 + 2, none⟩ = some (.int .i64 l[k].c) := by
  obtain ⟨g, o, _, rfl, h1, h2, _, _⟩ := h.at_ (by decide) hn
  refine ⟨g, o, rfl, h1, h2, fun k hk => ?_⟩
  obtain ⟨g', o', c, e, _, _, rfl, hc⟩ := h.at_ (by decide) hk
  cases e
  exact ⟨hc 0 _ rfl, hc 1 _ rfl, hc 2 _ rfl⟩

theorem inF_at {vs : List V3} {f : Fc} (h : inF vs.length f = true) : ∃ (i j k : Nat) (hi : i < vs.length) (hj : j < vs.length) (hk : k < vs.length), f = ⟨i, j, k⟩ ∧ atV vs f.a = vs[i] ∧ atV vs f.b = vs[j] ∧ atV vs f.c = vs[k] := by
  obtain ⟨a, b, c⟩ := f
  simp only [inF, inI, Bool.and_eq_true, decide_eq_true_eq] at h
  obtain ⟨⟨⟨a1, a2⟩, b1, b2⟩, c1, c2⟩ := h
  obtain ⟨i, rfl⟩ := Int.eq_ofNat_of_zero_le a1
  obtain ⟨j, rfl⟩ := Int.eq_ofNat_of_zero_le b1
  obtain ⟨k, rfl⟩ := Int.eq_ofNat_of_zero_le c1
  exact ⟨i, j, k, by omega, by omega, by omega, rfl, by simp [atV, show i < vs.length by omega], by simp [atV, show j < vs.length by omega], by simp [atV, show k < vs.length by omega]⟩

end Go.Bl

namespace Go.Bl
open Go

/-- a side without its direction -/
def uSide (u v : Int) : Sd := ⟨min u v, max u v⟩

def keysF (f : Fc) : List Sd := [uSide f.a f.b, uSide f.b f.c, uSide f.c f.a]

def fcAt (F : List Fc) (i : Nat) : Fc := F.getD i default

def adjF (F : List Fc) (i k : Nat) : Prop := ∃ s, s ∈ keysF (fcAt F i) ∧ s ∈ keysF (fcAt F k)

theorem adjF.symm {F : List Fc} {i k : Nat} (h : adjF F i k) : adjF F k i := let ⟨s, h1, h2⟩ := h; ⟨s, h2, h1⟩
/-- there is a way from face i to face k -/
inductive Reach (F : List Fc) : Nat → Nat → Prop
  | refl (i : Nat) : i < F.length → Reach F i i
  | step {i j k : Nat} : Reach F i j → k < F.length → adjF F j k → Reach F i k

theorem Reach.lt {F : List Fc} {i k : Nat} (h : Reach F i k) : i < F.length ∧ k < F.length := by
  induction h with
  | refl h => exact ⟨h, h⟩
  | step _ h2 _ ih => exact ⟨ih.1, h2⟩

theorem Reach.trans {F : List Fc} {i j k : Nat} (h : Reach F i j) (h2 : Reach F j k) : Reach F i k := by
  induction h2 with
  | refl _ => exact h
  | step _ h3 h4 ih => exact .step ih h3 h4

theorem Reach.symm {F : List Fc} {i k : Nat} (h : Reach F i k) : Reach F k i := by
  induction h with
  | refl h => exact .refl _ h
  | step h1 h2 h3 ih => exact Reach.trans (.step (.refl _ h2) h1.lt.2 h3.symm) ih

open Classical in
/-- the group of a face: its faces in order -/
noncomputable def compF (F : List Fc) (i : Nat) : List Nat := (List.range F.length).filter fun k => decide (Reach F i k)
open Classical in
noncomputable def leastF (F : List Fc) (i : Nat) : Bool := decide (∀ q, q < i → ¬ Reach F q i)
open Classical in
noncomputable def doneF (F : List Fc) (i k : Nat) : Bool := decide (∃ q, q < i ∧ Reach F q k)

noncomputable def shellsTo (F : List Fc) (i : Nat) : List (List Nat) := ((List.range i).filter (leastF F)).map (compF F)

noncomputable def shellsF (F : List Fc) : List (List Nat) := shellsTo F F.length

theorem mem_comp {F : List Fc} {i k : Nat} : k ∈ compF F i ↔ Reach F i k := by
  unfold compF
  simp only [List.mem_filter, List.mem_range, decide_eq_true_eq]
  exact ⟨fun h => h.2, fun h => ⟨h.lt.2, h⟩⟩

theorem comp_nodup (F : List Fc) (i : Nat) : (compF F i).Nodup := List.nodup_range.filter _

theorem comp_sorted (F : List Fc) (i : Nat) : (compF F i).Pairwise (· < ·) := List.pairwise_lt_range.filter _

theorem least_done {F : List Fc} {i : Nat} : leastF F i = !doneF F i i := by
  unfold leastF doneF
  by_cases h : ∃ q, q < i ∧ Reach F q i
  · simp only [h, decide_true, Bool.not_true, decide_eq_false_iff_not]
    intro h2
    obtain ⟨q, h3, h4⟩ := h
    exact h2 q h3 h4
  · simp only [h, decide_false, Bool.not_false, decide_eq_true_eq]
    exact fun q h3 h4 => h ⟨q, h3, h4⟩

theorem shellsTo_succ (F : List Fc) (i : Nat) : shellsTo F (i + 1) = if doneF F i i then shellsTo F i else shellsTo F i ++ [compF F i] := by
  unfold shellsTo
  rw [List.range_succ, List.filter_append, List.map_append]
  simp only [List.filter_cons, List.filter_nil, least_done]
  cases doneF F i i <;> simp

theorem done_iff {F : List Fc} {i k : Nat} : doneF F i k = true ↔ ∃ q, q < i ∧ Reach F q k := by unfold doneF; simp

theorem done_zero (F : List Fc) (k : Nat) : doneF F 0 k = false := by
  rw [← Bool.not_eq_true, done_iff]
  rintro ⟨q, h, _⟩; omega

theorem done_succ_old {F : List Fc} {i : Nat} (h : doneF F i i = true) (k : Nat) : doneF F (i + 1) k = doneF F i k := by
  rw [Bool.eq_iff_iff, done_iff, done_iff]
  constructor
  · rintro ⟨q, h1, h2⟩
    by_cases e : q = i
    · subst e
      obtain ⟨r, h3, h4⟩ := done_iff.1 h
      exact ⟨r, h3, h4.trans h2⟩
    · exact ⟨q, by omega, h2⟩
  · rintro ⟨q, h1, h2⟩; exact ⟨q, by omega, h2⟩

theorem done_succ_new {F : List Fc} {i k : Nat} : doneF F (i + 1) k = true ↔ doneF F i k = true ∨ Reach F i k := by
  rw [done_iff, done_iff]
  constructor
  · rintro ⟨q, h1, h2⟩
    by_cases e : q = i
    · subst e; exact .inr h2
    · exact .inl ⟨q, by omega, h2⟩
  · rintro (⟨q, h1, h2⟩ | h)
    · exact ⟨q, by omega, h2⟩
    · exact ⟨i, by omega, h⟩
/-- a face that hangs together with one that is not done is not done -/
theorem done_adj {F : List Fc} {i x k : Nat} (hi : doneF F i i = false) (hx : Reach F i x) (hk : k < F.length) (ha : adjF F x k) : doneF F i k = false := by
  rw [← Bool.not_eq_true, done_iff] at hi ⊢
  rintro ⟨q, h1, h2⟩
  exact hi ⟨q, h1, h2.trans (Reach.symm (.step hx hk ha))⟩
/-- a group that holds what hangs together with it is the whole group -/
theorem comp_of_closed {F : List Fc} {i : Nat} {g : List Nat} (hi : i ∈ g) (hr : ∀ x ∈ g, Reach F i x) (hc : ∀ x ∈ g, ∀ k, k < F.length → adjF F x k → k ∈ g) (k : Nat) : k ∈ g ↔ Reach F i k := by
  refine ⟨hr k, fun h => ?_⟩
  induction h with
  | refl _ => exact hi
  | step _ h2 h3 ih => exact hc _ ih _ h2 h3

/-- the faces that have a side, once for each time -/
def evF (F : List Fc) : List (Sd × Int) := (List.range F.length).flatMap fun i => (keysF (fcAt F i)).map fun s => (s, (i : Int))

def evTo (F : List Fc) (i j : Nat) : List (Sd × Int) := (List.range i).flatMap (fun i => (keysF (fcAt F i)).map fun s => (s, (i : Int))) ++ ((keysF (fcAt F i)).take j).map fun s => (s, (i : Int))

def byE (E : List (Sd × Int)) (s : Sd) : List Int := (E.filter fun x => x.1 == s).map (·.2)

theorem evTo_zero (F : List Fc) : evTo F 0 0 = [] := by simp [evTo]

theorem evTo_next (F : List Fc) (i : Nat) : evTo F i 3 = evTo F (i + 1) 0 := by
  unfold evTo
  rw [List.range_succ, List.flatMap_append]
  simp [keysF]

theorem evTo_step (F : List Fc) (i : Nat) {j : Nat} (hj : j < 3) : evTo F i (j + 1) = evTo F i j ++ [((keysF (fcAt F i)).getD j default, (i : Int))] := by
  unfold evTo
  have hl : j < (keysF (fcAt F i)).length := by simp [keysF]; omega
  rw [List.take_succ_eq_append_getElem hl, List.map_append, ← List.append_assoc]
  simp [List.getD, hl]

theorem evTo_all (F : List Fc) : evTo F F.length 0 = evF F := by simp [evTo, evF]

theorem byE_snoc (E : List (Sd × Int)) (s : Sd) (n : Int) (t : Sd) : byE (E ++ [(s, n)]) t = if s = t then byE E t ++ [n] else byE E t := by
  unfold byE
  rw [List.filter_append, List.map_append]
  by_cases h : s = t
  · subst h; simp
  · simp [h]

theorem byE_len (E : List (Sd × Int)) (s : Sd) : (byE E s).length ≤ E.length := by
  unfold byE
  rw [List.length_map]
  exact List.length_filter_le _ _

theorem evTo_len (F : List Fc) (i j : Nat) : (evTo F i j).length ≤ 3 * i + 3 := by
  unfold evTo
  rw [List.length_append, List.length_map, List.length_take, List.length_flatMap]
  have h1 : ((List.range i).map fun i => ((keysF (fcAt F i)).map fun s => (s, (i : Int))).length).sum = 3 * i := by
    induction i with
    | zero => rfl
    | succ i ih => rw [List.range_succ, List.map_append, List.sum_append, ih]; simp [keysF]; omega
  have h2 : (keysF (fcAt F i)).length = 3 := rfl
  rw [h1]; omega

theorem mem_by {F : List Fc} {s : Sd} {k : Int} : k ∈ byE (evF F) s ↔ ∃ i : Nat, k = i ∧ i < F.length ∧ s ∈ keysF (fcAt F i) := by
  unfold byE evF
  simp only [List.mem_map, List.mem_filter, List.mem_flatMap, List.mem_range, beq_iff_eq]
  constructor
  · rintro ⟨x, ⟨⟨i, hi, s', hs', rfl⟩, h2⟩, rfl⟩
    simp only at h2
    subst h2
    exact ⟨i, rfl, hi, hs'⟩
  · rintro ⟨i, rfl, hi, hs⟩
    exact ⟨(s, (i : Int)), ⟨⟨i, hi, s, hs, rfl⟩, rfl⟩, rfl⟩
/-- faces that are reached by the sides of one -/
theorem adj_by {F : List Fc} {x k : Nat} (hk : k < F.length) : adjF F x k ↔ ∃ s ∈ keysF (fcAt F x), (k : Int) ∈ byE (evF F) s := by
  constructor
  · rintro ⟨s, h1, h2⟩
    exact ⟨s, h1, mem_by.2 ⟨k, rfl, hk, h2⟩⟩
  · rintro ⟨s, h1, h2⟩
    obtain ⟨i, e, _, h3⟩ := mem_by.1 h2
    have : i = k := by omega
    subst this
    exact ⟨s, h1, h3⟩

end Go.Bl

namespace Go.Bl
open Go

def rvS (s : Sd) : Sd := ⟨s.v, s.u⟩

theorem rvS_rvS (s : Sd) : rvS (rvS s) = s := rfl

theorem rvS_inj {a b : Sd} (h : rvS a = rvS b) : a = b := by rw [← rvS_rvS a, h, rvS_rvS]
/-- the open sides, in the order in which the faces have them -/
def openS (fs : List Fc) : List Sd := (allS fs).filter fun s => !decide (rvS s ∈ allS fs)

theorem openS_mem {fs : List Fc} {s : Sd} : s ∈ openS fs ↔ s ∈ allS fs ∧ rvS s ∉ allS fs := by
  unfold openS; rw [List.mem_filter]; simp

def ClosedS (fs : List Fc) : Prop := ∀ s ∈ allS fs, rvS s ∈ allS fs

theorem closed_open {fs : List Fc} : ClosedS fs ↔ openS fs = [] := by
  constructor
  · intro h
    rw [List.eq_nil_iff_forall_not_mem]
    intro s hs
    exact (openS_mem.1 hs).2 (h s (openS_mem.1 hs).1)
  · intro h s hs
    by_cases hr : rvS s ∈ allS fs
    · exact hr
    · have : s ∈ openS fs := openS_mem.2 ⟨hs, hr⟩
      rw [h] at this; cases this

theorem len_of_inj {α β : Type} [DecidableEq β] (f : α → β) (hf : ∀ a b, f a = f b → a = b) {l : List α} {m : List β} (hl : l.Nodup) (hm : ∀ x ∈ l, f x ∈ m) : l.length ≤ m.length := by
  induction l generalizing m with
  | nil => exact Nat.zero_le _
  | cons x l ih =>
    obtain ⟨h1, h2⟩ := List.nodup_cons.1 hl
    have hx := hm x (List.mem_cons_self ..)
    have := ih (m := m.erase (f x)) h2 fun y hy => by
      rw [List.mem_erase_of_ne (fun e => h1 (by rw [← hf _ _ e]; exact hy))]
      exact hm y (List.mem_cons_of_mem _ hy)
    rw [List.length_erase_of_mem hx] at this
    have hp := List.length_pos_of_mem hx
    simp only [List.length_cons]; omega

theorem facesF_all {vs : List V3} : ∀ {fs : List Fc}, (∀ f ∈ fs, faceF vs f = 0) → facesF vs fs = 0
  | [], _ => rfl
  | f :: r, h => by
    unfold facesF
    rw [if_pos (h f (List.mem_cons_self ..))]
    exact facesF_all fun g hg => h g (List.mem_cons_of_mem _ hg)

theorem facesF_zero {vs : List V3} : ∀ {fs : List Fc}, facesF vs fs = 0 → ∀ f ∈ fs, faceF vs f = 0
  | [], _, f, hf => by simp at hf
  | g :: r, h, f, hf => by
    unfold facesF at h
    by_cases hg : faceF vs g = 0
    · rw [if_pos hg] at h
      rcases List.mem_cons.1 hf with rfl | hf
      · exact hg
      · exact facesF_zero h f hf
    · rw [if_neg hg] at h; exact absurd h hg

structure MeshOk (vs : List V3) (fs : List Fc) : Prop where
  some : fs ≠ []
  vl : vs.length ≤ 1000
  fl : fs.length ≤ 1000
  near : vs.any farV = false
  face : ∀ f ∈ fs, faceF vs f = 0
  once : (allS fs).Nodup

theorem meshOk {vs : List V3} {fs : List Fc} : meshF ⟨vs, fs⟩ = 0 ↔ MeshOk vs fs := by
  constructor
  · intro h
    unfold meshF at h
    by_cases h1 : fs = []
    · rw [if_pos h1] at h; cases h
    rw [if_neg h1] at h
    by_cases h2 : 1000 < vs.length ∨ 1000 < fs.length
    · rw [if_pos h2] at h; cases h
    rw [if_neg h2] at h
    by_cases h3 : vs.any farV = true
    · rw [if_pos h3] at h; cases h
    rw [if_neg h3] at h
    by_cases h4 : facesF vs fs = 0
    · rw [if_pos h4] at h
      by_cases h5 : (allS fs).Nodup
      · exact ⟨h1, by omega, by omega, by simpa using h3, facesF_zero h4, h5⟩
      · rw [if_neg h5] at h; cases h
    · rw [if_neg h4] at h; exact absurd h h4
  · rintro ⟨h1, h2, h3, h4, h5, h6⟩
    unfold meshF
    rw [if_neg h1, if_neg (show ¬ (1000 < vs.length ∨ 1000 < fs.length) by omega), if_neg (by simp only [h4]; decide), if_pos (facesF_all h5), if_pos h6]

/-- what a walk over a set of sides has taken: S is what is left -/
def TakS (L : List Sd) (S : Sd → Prop) (out : List Sd) : Prop := out.Nodup ∧ ∀ s, s ∈ out ↔ s ∈ L ∧ ¬ S s ∧ rvS s ∉ L

theorem TakS.skip {L : List Sd} {S : Sd → Prop} {out : List Sd} (h : TakS L S out) {x : Sd} (hx : rvS x ∈ L) : TakS L (fun z => S z ∧ z ≠ x) out := by
  refine ⟨h.1, fun s => ?_⟩
  rw [h.2 s]
  constructor
  · rintro ⟨h1, h2, h3⟩; exact ⟨h1, fun h => h2 h.1, h3⟩
  · rintro ⟨h1, h2, h3⟩
    refine ⟨h1, fun h => h2 ⟨h, ?_⟩, h3⟩
    rintro rfl; exact h3 hx

theorem TakS.push {L : List Sd} {S : Sd → Prop} {out : List Sd} (h : TakS L S out) {x : Sd} (hS : S x) (hL : x ∈ L) (hx : rvS x ∉ L) : TakS L (fun z => S z ∧ z ≠ x) (out ++ [x]) := by
  refine ⟨?_, fun s => ?_⟩
  · rw [List.nodup_append]
    refine ⟨h.1, by simp, fun a ha b hb => ?_⟩
    rw [List.mem_singleton.1 hb]
    rintro rfl
    exact ((h.2 a).1 ha).2.1 hS
  · rw [List.mem_append, h.2 s, List.mem_singleton]
    constructor
    · rintro (⟨h1, h2, h3⟩ | rfl)
      · exact ⟨h1, fun h => h2 h.1, h3⟩
      · exact ⟨hL, fun h => h.2 rfl, hx⟩
    · rintro ⟨h1, h2, h3⟩
      by_cases e : s = x
      · exact .inr e
      · exact .inl ⟨h1, fun h => h2 ⟨h, e⟩, h3⟩

theorem TakS.len {L : List Sd} {S : Sd → Prop} {out : List Sd} (h : TakS L S out) : out.length ≤ L.length := len_of_inj (fun x => x) (fun _ _ h => h) h.1 fun x hx => ((h.2 x).1 hx).1

theorem TakS.done {L : List Sd} {S : Sd → Prop} {out : List Sd} (h : TakS L S out) (hS : ∀ x ∈ L, ¬ S x) (hL : L.Nodup) : out.Perm (L.filter fun s => !decide (rvS s ∈ L)) := by
  rw [List.perm_ext_iff_of_nodup h.1 (hL.filter _)]
  intro s
  rw [h.2 s, List.mem_filter]
  simp only [Bool.not_eq_true', decide_eq_false_iff_not]
  constructor
  · rintro ⟨h1, -, h3⟩; exact ⟨h1, h3⟩
  · rintro ⟨h1, h3⟩; exact ⟨h1, hS s h1, h3⟩

end Go.Bl

namespace Go.Bl
open Go

def gi (g : List Nat) : List Int := g.map fun k : Nat => (k : Int)

theorem gi_len (g : List Nat) : (gi g).length = g.length := by simp [gi]

theorem gi_snoc (g : List Nat) (k : Nat) : gi (g ++ [k]) = gi g ++ [(k : Int)] := by simp [gi]

theorem gi_get {g : List Nat} {a : Nat} (h : a < (gi g).length) : (gi g)[a] = ((g[a]'(by rw [gi_len] at h; exact h) : Nat) : Int) := by simp [gi]

noncomputable def sawB (F : List Fc) (i : Nat) (g : List Nat) (k : Nat) : Bool := doneF F i k || decide (k ∈ g)

noncomputable def sawL (F : List Fc) (i : Nat) (g : List Nat) : List Bool := (List.range F.length).map (sawB F i g)

theorem sawL_len (F : List Fc) (i : Nat) (g : List Nat) : (sawL F i g).length = F.length := by simp [sawL]

theorem sawL_get {F : List Fc} {i : Nat} {g : List Nat} {k : Nat} (h : k < (sawL F i g).length) : (sawL F i g)[k] = sawB F i g k := by simp [sawL]

theorem sawL_zero (F : List Fc) : sawL F 0 [] = List.replicate F.length false := by
  apply List.ext_getElem
  · simp [sawL]
  · intro k h1 h2
    rw [sawL_get]; simp [sawB, done_zero]

theorem sawL_set {F : List Fc} {i : Nat} {g : List Nat} {k : Nat} : (sawL F i g).set k true = sawL F i (g ++ [k]) := by
  apply List.ext_getElem
  · simp [sawL]
  · intro j h1 h2
    rw [List.getElem_set]
    rw [sawL_get h2]
    by_cases hj : k = j
    · subst hj; simp [sawB]
    · rw [if_neg hj, sawL_get]
      have : ¬ j = k := fun e => hj e.symm
      simp [sawB, this]

theorem sawL_same {F : List Fc} {i : Nat} (h : doneF F i i = true) : sawL F i [] = sawL F (i + 1) [] := by
  unfold sawL
  refine List.map_congr_left fun k _ => ?_
  simp [sawB, done_succ_old h]

structure Grw (F : List Fc) (i : Nat) (g : List Nat) : Prop where
  new : doneF F i i = false
  nd : g.Nodup
  mem : i ∈ g
  reach : ∀ x ∈ g, Reach F i x

theorem Grw.one {F : List Fc} {i : Nat} (hi : i < F.length) (h : doneF F i i = false) : Grw F i [i] :=
  ⟨h, by simp, by simp, fun x hx => by rw [List.mem_singleton] at hx; subst hx; exact .refl _ hi⟩

theorem Grw.lt {F : List Fc} {i : Nat} {g : List Nat} (h : Grw F i g) {x : Nat} (hx : x ∈ g) : x < F.length := (h.reach x hx).lt.2

theorem nodup_bound {n : Nat} {g : List Nat} (hn : g.Nodup) (hb : ∀ x ∈ g, x < n) : g.length ≤ n := by
  simpa using len_of_inj (fun x : Nat => x) (fun _ _ h => h) hn (m := List.range n) (fun x hx => List.mem_range.2 (hb x hx))

theorem Grw.len {F : List Fc} {i : Nat} {g : List Nat} (h : Grw F i g) : g.length ≤ F.length := nodup_bound h.nd fun _ hx => h.lt hx
/-- all that hangs together with the first a faces of the group is in it -/
def ClG (F : List Fc) (g : List Nat) (a : Nat) : Prop := ∀ x ∈ g.take a, ∀ k, k < F.length → adjF F x k → k ∈ g

def ClF (F : List Fc) (g : List Nat) (x j : Nat) : Prop := ∀ s ∈ (keysF (fcAt F x)).take j, ∀ k : Nat, (k : Int) ∈ byE (evF F) s → k ∈ g

def ClE (F : List Fc) (g : List Nat) (s : Sd) (q : Nat) : Prop := ∀ k : Nat, (k : Int) ∈ (byE (evF F) s).take q → k ∈ g

theorem ClG.snoc {F : List Fc} {g : List Nat} {a k : Nat} (h : ClG F g a) (ha : a ≤ g.length) : ClG F (g ++ [k]) a := fun x hx k' h1 h2 => by
  rw [List.take_append_of_le_length ha] at hx
  exact List.mem_append_left _ (h x hx k' h1 h2)

theorem ClF.snoc {F : List Fc} {g : List Nat} {x j k : Nat} (h : ClF F g x j) : ClF F (g ++ [k]) x j := fun s hs k' h1 => List.mem_append_left _ (h s hs k' h1)

theorem ClE.snoc {F : List Fc} {g : List Nat} {s : Sd} {q k : Nat} (h : ClE F g s q) : ClE F (g ++ [k]) s q := fun k' h1 => List.mem_append_left _ (h k' h1)

theorem ClE.next {F : List Fc} {g : List Nat} {s : Sd} {q k : Nat} (h : ClE F g s q) (hq : q < (byE (evF F) s).length) (hk : (byE (evF F) s)[q] = (k : Int)) (hm : k ∈ g) : ClE F g s (q + 1) := fun k' h1 => by
  rw [List.take_succ_eq_append_getElem hq, List.mem_append, List.mem_singleton, hk] at h1
  rcases h1 with h1 | h1
  · exact h k' h1
  · have : k' = k := by omega
    subst this; exact hm

theorem ClE.zero (F : List Fc) (g : List Nat) (s : Sd) : ClE F g s 0 := fun k h => by simp at h

theorem ClF.zero (F : List Fc) (g : List Nat) (x : Nat) : ClF F g x 0 := fun s h => by simp at h

theorem ClG.zero (F : List Fc) (g : List Nat) : ClG F g 0 := fun x h => by simp at h

theorem ClF.next {F : List Fc} {g : List Nat} {x j : Nat} (h : ClF F g x j) (hj : j < (keysF (fcAt F x)).length) (hq : ClE F g (keysF (fcAt F x))[j] (byE (evF F) (keysF (fcAt F x))[j]).length) : ClF F g x (j + 1) := fun s hs k hk => by
  rw [List.take_succ_eq_append_getElem hj, List.mem_append, List.mem_singleton] at hs
  rcases hs with hs | rfl
  · exact h s hs k hk
  · exact hq k (by rw [List.take_length]; exact hk)

theorem ClG.next {F : List Fc} {g : List Nat} {a : Nat} (h : ClG F g a) (ha : a < g.length) (hs : ClF F g g[a] 3) : ClG F g (a + 1) := fun x hx k hk hadj => by
  rw [List.take_succ_eq_append_getElem ha, List.mem_append, List.mem_singleton] at hx
  rcases hx with hx | rfl
  · exact h x hx k hk hadj
  · obtain ⟨s, h1, h2⟩ := (adj_by hk).1 hadj
    exact hs s (by rw [List.take_of_length_le (by simp [keysF])]; exact h1) k h2
/-- an entry of a side's list: a face that hangs together with x -/
theorem ent_adj {F : List Fc} {x : Nat} {s : Sd} (hs : s ∈ keysF (fcAt F x)) {k : Nat} (hk : (k : Int) ∈ byE (evF F) s) : k < F.length ∧ adjF F x k := by
  obtain ⟨i, e, h2, h3⟩ := mem_by.1 hk
  have : i = k := by omega
  subst this
  exact ⟨h2, s, hs, h3⟩

theorem ent_nat {F : List Fc} {s : Sd} {q : Nat} (hq : q < (byE (evF F) s).length) : ∃ k : Nat, (byE (evF F) s)[q] = (k : Int) ∧ k < F.length ∧ (k : Int) ∈ byE (evF F) s := by
  have hm := List.getElem_mem hq
  obtain ⟨i, e, h2, h3⟩ := mem_by.1 hm
  exact ⟨i, e, h2, by rw [← e]; exact hm⟩

theorem Grw.seen {F : List Fc} {i : Nat} {g : List Nat} (h : Grw F i g) {x k : Nat} (hx : x ∈ g) (hk : k < F.length) (ha : adjF F x k) : sawB F i g k = decide (k ∈ g) := by
  unfold sawB
  rw [done_adj h.new (h.reach x hx) hk ha, Bool.false_or]

theorem Grw.snoc {F : List Fc} {i : Nat} {g : List Nat} (h : Grw F i g) {x k : Nat} (hx : x ∈ g) (hk : k < F.length) (ha : adjF F x k) (hn : k ∉ g) : Grw F i (g ++ [k]) := by
  refine ⟨h.new, ?_, List.mem_append_left _ h.mem, fun y hy => ?_⟩
  · rw [List.nodup_append]
    refine ⟨h.nd, by simp, fun a hA b hb => ?_⟩
    rw [List.mem_singleton] at hb
    subst hb
    exact fun e => hn (e ▸ hA)
  · rw [List.mem_append, List.mem_singleton] at hy
    rcases hy with hy | rfl
    · exact h.reach y hy
    · exact .step (h.reach x hx) hk ha

theorem Grw.all {F : List Fc} {i : Nat} {g : List Nat} (h : Grw F i g) (hc : ClG F g g.length) (k : Nat) : k ∈ g ↔ Reach F i k :=
  comp_of_closed h.mem h.reach (fun x hx k h1 h2 => hc x (by rw [List.take_length]; exact hx) k h1 h2) k

theorem Grw.next {F : List Fc} {i : Nat} {g : List Nat} (h : Grw F i g) (hc : ClG F g g.length) : sawL F i g = sawL F (i + 1) [] := by
  unfold sawL
  refine List.map_congr_left fun k _ => ?_
  rw [Bool.eq_iff_iff]
  unfold sawB
  simp only [Bool.or_eq_true, decide_eq_true_eq, List.not_mem_nil, or_false]
  rw [done_succ_new, h.all hc]
/-- the sorted group -/
theorem Grw.sorted {F : List Fc} {i : Nat} {g : List Nat} (h : Grw F i g) (hc : ClG F g g.length) {l : List Int} (hp : l.Perm (gi g)) (hs : l.Pairwise (· ≤ ·)) : l = gi (compF F i) := by
  have hq : (gi g).Perm (gi (compF F i)) := by
    refine List.Perm.map _ ((List.perm_ext_iff_of_nodup h.nd (comp_nodup F i)).2 fun k => ?_)
    rw [h.all hc, mem_comp]
  have h2 : (gi (compF F i)).Pairwise (· ≤ ·) := by
    unfold gi
    rw [List.pairwise_map]
    exact (comp_sorted F i).imp fun h => by omega
  exact List.Perm.eq_of_pairwise (fun a b _ _ h1 h2 => Int.le_antisymm h1 h2) hs h2 (hp.trans hq)

noncomputable def shellsI (F : List Fc) (i : Nat) : List (List Int) := (shellsTo F i).map gi

theorem shellsI_old {F : List Fc} {i : Nat} (h : doneF F i i = true) : shellsI F (i + 1) = shellsI F i := by
  unfold shellsI; rw [shellsTo_succ, if_pos h]

theorem shellsI_new {F : List Fc} {i : Nat} (h : doneF F i i = false) : shellsI F (i + 1) = shellsI F i ++ [gi (compF F i)] := by
  unfold shellsI; rw [shellsTo_succ, if_neg (by rw [h]; decide), List.map_append]; rfl

theorem shellsI_len (F : List Fc) : ∀ i, (shellsI F i).length ≤ i
  | 0 => by simp [shellsI, shellsTo]
  | i + 1 => by
    cases h : doneF F i i
    · rw [shellsI_new h, List.length_append]
      have := shellsI_len F i
      simp; omega
    · rw [shellsI_old h]; have := shellsI_len F i; omega

theorem sum_filter_or (f : Nat → Int) {p q r : Nat → Bool} : ∀ {l : List Nat}, (∀ k ∈ l, r k = (p k || q k)) → (∀ k ∈ l, p k = true → q k = false) → ((l.filter r).map f).sum = ((l.filter p).map f).sum + ((l.filter q).map f).sum
  | [], _, _ => rfl
  | k :: l, h, hd => by
    have ih := sum_filter_or f (l := l) (fun x hx => h x (List.mem_cons_of_mem _ hx)) (fun x hx => hd x (List.mem_cons_of_mem _ hx))
    have h1 := h k (by simp)
    have h2 := hd k (by simp)
    simp only [List.filter_cons]
    rw [h1]
    cases hp : p k <;> cases hq : q k
    · simpa using ih
    · simp only [Bool.false_or, if_true, Bool.false_eq_true, if_false, List.map_cons, List.sum_cons]; omega
    · simp only [Bool.true_or, if_true, Bool.false_eq_true, if_false, List.map_cons, List.sum_cons]; omega
    · rw [hp, hq] at h2; exact absurd (h2 rfl) (by decide)

theorem shellsTo_sum (F : List Fc) (f : Nat → Int) : ∀ i, i ≤ F.length → ((shellsTo F i).map fun g => (g.map f).sum).sum = (((List.range F.length).filter (doneF F i)).map f).sum
  | 0, _ => by
    have : (List.range F.length).filter (doneF F 0) = [] := by rw [List.filter_eq_nil_iff]; intro k _; rw [done_zero]; decide
    rw [this]; rfl
  | i + 1, hi => by
    have ih := shellsTo_sum F f i (by omega)
    rw [shellsTo_succ]
    cases h : doneF F i i
    · rw [if_neg (by decide), List.map_append, List.sum_append, ih]
      rw [sum_filter_or f (p := doneF F i) (q := fun k => decide (k ∈ compF F i)) (r := doneF F (i + 1))]
      · congr 1
        simp only [List.map_cons, List.map_nil, List.sum_cons, List.sum_nil, Int.add_zero]
        congr 2
        unfold compF
        refine List.filter_congr fun k hk => ?_
        rw [Bool.eq_iff_iff]
        simp [hk]
      · intro k _
        rw [Bool.eq_iff_iff, done_succ_new, Bool.or_eq_true, decide_eq_true_eq, mem_comp]
      · intro k _ hk
        rw [decide_eq_false_iff_not, mem_comp]
        intro hr
        obtain ⟨q, h1, h2⟩ := done_iff.1 hk
        have : doneF F i i = true := done_iff.2 ⟨q, h1, h2.trans hr.symm⟩
        rw [h] at this; cases this
    · rw [if_pos rfl, ih]
      congr 2
      exact List.filter_congr fun k _ => (done_succ_old h k).symm
/-- what is summed up over the groups is summed up over all faces -/
theorem shells_sum (F : List Fc) (f : Nat → Int) : ((shellsF F).map fun g => (g.map f).sum).sum = ((List.range F.length).map f).sum := by
  unfold shellsF
  rw [shellsTo_sum F f F.length (Nat.le_refl _)]
  congr 2
  rw [List.filter_eq_self]
  intro k hk
  exact done_iff.2 ⟨k, List.mem_range.1 hk, .refl _ (List.mem_range.1 hk)⟩

end Go.Bl

namespace Go.Bl
open Go
variable {P : Program}

end Go.Bl

namespace Go.Bl
open Go

def VOneG (α : Type) [Enc α] (lo2 : Nat) (u : α) : Value → World → Prop := fun v w => ∃ g : Nat, v = .slice (some ⟨g, 0, none⟩) 1 1 ∧ Sl w lo2 (some ⟨g, 0, none⟩) [u]

theorem VOneG.stab {α : Type} [Enc α] {lo2 : Nat} {u : α} {p : Nat → Prop} {v : Value} {w w' : World} (h : VOneG α lo2 u v w) (hw : Wrt p w w') (hp : ∀ g, p g → g < lo2) : VOneG α lo2 u v w' := let ⟨g, h1, h2⟩ := h; ⟨g, h1, h2.wrt hw hp⟩

def VGp (α : Type) [Enc α] (e : TypeId) (lo n1 : Nat) (l : List α) (u : α) : Value → World → Prop := fun v w => ∃ (A : Option Addr) (c : Nat), v = .slice A (n1 + 1) c ∧ Own w lo e A c (l ++ [u])

theorem VGp.stab {α : Type} [Enc α] {e : TypeId} {lo n1 : Nat} {l : List α} {u : α} {q : Nat → Prop} {v : Value} {w w' : World} (h : VGp α e lo n1 l u v w) (hw : Wrt q w w') (hq : ∀ g, q g → g < lo) : VGp α e lo n1 l u v w' := let ⟨A, c, h1, h2⟩ := h; ⟨A, c, h1, h2.wrt hw hq⟩
/-- what the reads rest on stands -/
structure GpR (R : World → Prop) (gm off : Nat) (Aq : Option Addr) : Prop where
  pure : ∀ w w', R w → w.grownBy w' none → R w'
  app : ∀ w w' A5, R w → Grew Aq A5 w w' → R w'
  set : ∀ w v, R w → R (w.setCell ⟨gm, off, none⟩ v)

def GpI (α : Type) [Enc α] (ap st : Nat) (e : TypeId) (gm off lo lo2 n1 cq : Nat) (Aq : Option Addr) (lq : List α) (uq : α) (R : World → Prop) (m : Nat → Bool) (_ : Nat) (w : World) : Prop :=
  R w ∧ lo2 ≤ w.heap.size ∧ (m ap = false → Own w lo e Aq cq lq) ∧ (m st = false → Cell w gm off (.slice Aq n1 cq)) ∧
    (m st = true → ∃ (A : Option Addr) (c : Nat), Cell w gm off (.slice A (n1 + 1) c) ∧ Own w lo e A c (lq ++ [uq]))
section
variable {α : Type} [Enc α] {ap st : Nat} {e : TypeId} {gm off lo lo2 n1 cq k : Nat} {Aq : Option Addr} {lq : List α} {uq : α} {R : World → Prop} {m : Nat → Bool} {w w' : World}

theorem GpI.same (h : GpI α ap st e gm off lo lo2 n1 cq Aq lq uq R m k w) {j : Nat} (h1 : (ap == j) = false) (h2 : (st == j) = false) : GpI α ap st e gm off lo lo2 n1 cq Aq lq uq R (setm m j) k w := by
  unfold GpI
  rw [setm_ne h1, setm_ne h2]
  exact h

theorem GpI.pure (h : GpI α ap st e gm off lo lo2 n1 cq Aq lq uq R m k w) (hR : GpR R gm off Aq) (hg : w.grownBy w' none) : GpI α ap st e gm off lo lo2 n1 cq Aq lq uq R m k w' := by
  obtain ⟨h1, h2, h3, h4, h5⟩ := h
  exact ⟨hR.pure _ _ h1 hg, Nat.le_trans h2 hg.size, fun h => (h3 h).pure hg, fun h => (h4 h).gr hg (by simp), fun h => let ⟨A, c, a, b⟩ := h5 h; ⟨A, c, a.gr hg (by simp), b.pure hg⟩⟩

theorem GpI.app (h : GpI α ap st e gm off lo lo2 n1 cq Aq lq uq R m k w) (hR : GpR R gm off Aq) (hlo : gm < lo) (hne : (st == ap) = false) (ms : m st = false) {A5 : Option Addr} (hG : Grew Aq A5 w w') (ho : Own w lo e Aq cq lq) : GpI α ap st e gm off lo lo2 n1 cq Aq lq uq R (setm m ap) k w' := by
  obtain ⟨h1, h2, h3, h4, h5⟩ := h
  refine ⟨hR.app _ _ _ h1 hG, Nat.le_trans h2 hG.1.size, ?_, ?_, ?_⟩
  · intro h; rw [setm_eq] at h; cases h
  · intro _; exact (h4 ms).gr hG.1 (fun e => by have := (ho.blk_lt e).1; omega)
  · intro h; rw [setm_ne hne, ms] at h; cases h

theorem GpI.fin [Flat α] (h : GpI α ap st e gm off lo lo2 n1 cq Aq lq uq R m k w) (hR : GpR R gm off Aq) (hlo : gm < lo) (hne : (ap == st) = false) {v0 : Value} (c : Cell w gm off v0) {A : Option Addr} {d : Nat} (ho : Own w lo e A d (lq ++ [uq])) : GpI α ap st e gm off lo lo2 n1 cq Aq lq uq R (setm m st) k (w.setCell ⟨gm, off, none⟩ (.slice A (n1 + 1) d)) := by
  obtain ⟨h1, h2, h3, h4, h5⟩ := h
  have hg := gr_set (World.grownBy.refl w (some gm)) (p := ⟨gm, off, none⟩) (.inl rfl) (.slice A (n1 + 1) d)
  have hn : ∀ {B : Option Addr} {c : Nat} {l : List α}, Own w lo e B c l → ∀ g, blk B = some g → some gm ≠ some g := fun h g e1 e2 => by have := (h.blk_lt e1).1; injection e2; omega
  refine ⟨hR.set _ _ h1, by rw [heap_set]; exact h2, ?_, ?_, ?_⟩
  · intro h; rw [setm_ne hne] at h; exact (h3 h).ne hg (hn (h3 h))
  · intro h; rw [setm_eq] at h; cases h
  · intro _; exact ⟨A, d, c.set_ _, ho.ne hg (hn ho)⟩
end

end Go.Bl
