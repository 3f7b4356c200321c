/- Contracts of functions that this seat's laws reach, each: what one call returns and what it leaves in memory; no condition beyond each theorem's own hypotheses. -/
import Derived.Test.YtgcfaamgilbjdaaGreatDoorZqTree
import Derived.Test.YtgcfaamgilbjdaaGreatDoorZqBitRun
set_option linter.unusedVariables false
set_option linter.unusedSimpArgs false
namespace Go.Bl
open Go

def Typ (w : World) (g : Nat) (t : TypeId) : Prop := ∃ cs k, w.heap[g]? = some (.cells cs t k)

theorem Typ.new (w : World) (cs : Array Value) (t : TypeId) : Typ (w.alloc (.cells cs t)) w.heap.size t := ⟨cs, (0, 0), heap_alloc_new w _⟩

theorem Typ.lt {w : World} {g : Nat} {t : TypeId} (h : Typ w g t) : g < w.heap.size := by
  obtain ⟨cs, k, h⟩ := h
  exact (Array.getElem?_eq_some_iff.1 h).1

theorem Typ.gr {w w' : World} {g : Nat} {t : TypeId} {r : Option Nat} (h : Typ w g t) (hg : w.grownBy w' r) (hr : r ≠ some g) : Typ w' g t := by
  have hl := h.lt
  obtain ⟨cs, k, h⟩ := h
  exact ⟨cs, k, (hg.block g hl (Ne.symm hr)).trans h⟩

theorem Typ.uniq {w : World} {g : Nat} {t u : TypeId} (h : Typ w g t) (k : Typ w g u) : t = u := by
  obtain ⟨cs, k1, h⟩ := h
  obtain ⟨cs', k2, k⟩ := k
  rw [h] at k
  injection k with k
  injection k

theorem Own.typ {α : Type} [Enc α] {w : World} {lo : Nat} {e : TypeId} {A : Option Addr} {c : Nat} {l : List α} (h : Own w lo e A c l) {g : Nat} (hg : blk A = some g) : Typ w g e := by
  obtain ⟨_, cs, _, ho⟩ := h
  rcases ho.2 with ⟨h1, _⟩ | ⟨g', cap, cur, hv, _, hh, _⟩
  · injection h1 with h1
    subst h1
    cases hg
  · injection hv with hv
    subst hv
    simp only [blk, Option.map_some, Option.some.injEq] at hg
    subst hg
    exact ⟨cur, _, hh⟩
/-- a block of a type whose first cells are known and open -/
def Box (w : World) (g : Nat) (t : TypeId) (vs : List Value) : Prop := Typ w g t ∧ ∀ i v, vs[i]? = some v → Cell w g i v
section
variable {w w' : World} {g : Nat} {t : TypeId} {vs : List Value}

theorem Box.new (w : World) (vs : List Value) (t : TypeId) : Box (w.alloc (.cells vs.toArray t)) w.heap.size t vs := ⟨Typ.new _ _ _, fun i v h => Cell.new w vs t i v h _ rfl⟩

theorem Box.lt (h : Box w g t vs) : g < w.heap.size := h.1.lt

theorem Box.c (h : Box w g t vs) (i : Nat) {v : Value} (hv : vs[i]? = some v) : Cell w g i v := h.2 i v hv

theorem Box.gr {r : Option Nat} (h : Box w g t vs) (hg : w.grownBy w' r) (hr : r ≠ some g) : Box w' g t vs := ⟨h.1.gr hg hr, fun i v hv => (h.2 i v hv).gr hg hr⟩

theorem Box.pure (h : Box w g t vs) (hg : w.grownBy w' none) : Box w' g t vs := h.gr hg (by simp)

theorem Typ.set_ (h : Typ w g t) (p : Addr) (v : Value) : Typ (w.setCell p v) g t := by
  obtain ⟨cs, k, h⟩ := h
  unfold World.setCell
  by_cases hp : p.block = g
  · subst hp
    exact ⟨if p.spot.isSome then cs else cs.setIfInBounds p.off v, k, by simp only [Array.getElem?_modify, if_true, h, Option.map_some]⟩
  · exact ⟨cs, k, by simp only [Array.getElem?_modify, if_neg hp, h]⟩

theorem Box.set_ (h : Box w g t vs) (i : Nat) (v : Value) (hi : i < vs.length) : Box (w.setCell ⟨g, i, none⟩ v) g t (vs.set i v) := by
  refine ⟨h.1.set_ _ _, fun j u hu => ?_⟩
  rw [List.getElem?_set] at hu
  by_cases hij : i = j
  · subst hij
    rw [if_pos rfl, if_pos hi] at hu
    injection hu with hu
    subst hu
    exact (h.2 i vs[i] (List.getElem?_eq_getElem hi)).set_ v
  · rw [if_neg hij] at hu
    exact (h.2 j u hu).set_ne v hij

theorem Box.set_other (h : Box w g t vs) {g' i : Nat} (v : Value) (hg : g' ≠ g) : Box (w.setCell ⟨g', i, none⟩ v) g t vs := h.gr (gr_set (World.grownBy.refl w (some g')) (p := ⟨g', i, none⟩) (.inl rfl) v) (fun e => hg (by injection e))

theorem Own.set_other {α : Type} [Enc α] [Flat α] {lo : Nat} {e : TypeId} {A : Option Addr} {c : Nat} {l : List α} (h : Own w lo e A c l) {g' i : Nat} (v : Value) (hg : blk A ≠ some g') : Own (w.setCell ⟨g', i, none⟩ v) lo e A c l :=
  h.ne (gr_set (World.grownBy.refl w (some g')) (p := ⟨g', i, none⟩) (.inl rfl) v) (fun x hx e => hg (by rw [hx]; exact e.symm))

theorem Box.ne_own {α : Type} [Enc α] {lo : Nat} {e : TypeId} {A : Option Addr} {c : Nat} {l : List α} (h : Box w g t vs) (ho : Own w lo e A c l) (hne : e ≠ t) : blk A ≠ some g := fun e1 => hne ((ho.typ e1).uniq h.1)

theorem Box.sl {α : Type} [Enc α] {lo : Nat} {l : List α} (h : Box w g t vs) (hr : Row w lo l vs) (hl : lo ≤ g) (hm : l.length ≤ maxLen) : Sl w lo (some ⟨g, 0, none⟩) l :=
  ⟨hm, vs, hr, fun _ => ⟨_, rfl, hl, fun j u hu => by rw [Addr.add_lit, Nat.zero_add]; exact (h.2 j u hu).1⟩⟩

theorem Own.ne_own {α β : Type} [Enc α] [Enc β] {lo lo' : Nat} {e e' : TypeId} {A A' : Option Addr} {c c' : Nat} {l : List α} {l' : List β} (h : Own w lo e A c l) (h' : Own w lo' e' A' c' l') (hne : e ≠ e') {x : Nat} (hx : blk A = some x) : blk A' ≠ some x := fun e1 => hne ((h.typ hx).uniq (h'.typ e1))
end

end Go.Bl

namespace Go.Proofs.YtgcfaamgilbjdaaGreatDoor
open Go Go.RowKit Go.Bl
/-- two blocks may have turned, and new ones may have come -/
structure Gr2 (w w' : World) (b q : Nat) : Prop where
  os : w'.os = w.os
  tape : w'.tape = w.tape
  output : w'.output = w.output
  size : w.heap.size ≤ w'.heap.size
  block : ∀ i, i < w.heap.size → i ≠ b → i ≠ q → w'.heap[i]? = w.heap[i]?
section
variable {w w' w'' : World} {b q : Nat}

theorem Gr2.refl (w : World) (b q : Nat) : Gr2 w w b q := ⟨rfl, rfl, rfl, Nat.le_refl _, fun _ _ _ _ => rfl⟩

theorem Gr2.step {r : Option Nat} (h : Gr2 w w' b q) (k : w'.grownBy w'' r) (hr : ∀ x, r = some x → x = b ∨ x = q ∨ w.heap.size ≤ x) : Gr2 w w'' b q :=
  ⟨k.os.trans h.os, k.tape.trans h.tape, k.output.trans h.output, Nat.le_trans h.size k.size, fun i hi h1 h2 => (k.block i (Nat.lt_of_lt_of_le hi h.size) (fun e => by have := hr i e.symm; omega)).trans (h.block i hi h1 h2)⟩

theorem Gr2.pure (h : Gr2 w w' b q) (k : w'.grownBy w'' none) : Gr2 w w'' b q := h.step k (fun x e => by cases e)

theorem Gr2.new (h : Gr2 w w' b q) {w0 : World} (hg : w0.grownBy w none) (hb : w0.heap.size ≤ b) (hq : w0.heap.size ≤ q) : w0.grownBy w' none :=
  ⟨h.os.trans hg.os, h.tape.trans hg.tape, h.output.trans hg.output, Nat.le_trans hg.size h.size, fun i hi hr => (h.block i (Nat.lt_of_lt_of_le hi hg.size) (by omega) (by omega)).trans (hg.block i hi hr)⟩

theorem Gr2.cell (h : Gr2 w w' b q) {p : Addr} (hp : p.block < w.heap.size) (hb : p.block ≠ b) (hq : p.block ≠ q) : w'.cell? p = w.cell? p := World.cell?_of_block (h.block p.block hp hb hq)

theorem Gr2.sl {α : Type} [Enc α] {lo : Nat} {A : Option Addr} {l : List α} (h : Gr2 w w' b q) (hl : Sl w lo A l) (hb : b < lo) (hq : q < lo) : Sl w' lo A l :=
  hl.keep fun p hp hs => h.cell hs (by omega) (by omega)

theorem Gr2.box {x : Nat} {t : TypeId} {vs : List Value} (h : Gr2 w w' b q) (hl : Box w x t vs) (hb : b ≠ x) (hq : q ≠ x) : Box w' x t vs := by
  have hx := h.block x hl.lt (Ne.symm hb) (Ne.symm hq)
  refine ⟨?_, fun i v hv => ?_⟩
  · obtain ⟨cs, k, hh⟩ := hl.1
    exact ⟨cs, k, hx.trans hh⟩
  · obtain ⟨c1, c2⟩ := hl.c i hv
    exact ⟨(h.cell (p := ⟨x, i, none⟩) hl.lt (Ne.symm hb) (Ne.symm hq)).trans c1, by rw [World.frozen?_of_block hx]; exact c2⟩

theorem Gr2.trans (h : Gr2 w w' b q) (k : Gr2 w' w'' b q) : Gr2 w w'' b q :=
  ⟨k.os.trans h.os, k.tape.trans h.tape, k.output.trans h.output, Nat.le_trans h.size k.size, fun i hi h1 h2 => (k.block i (Nat.lt_of_lt_of_le hi h.size) h1 h2).trans (h.block i hi h1 h2)⟩
end

end Go.Proofs.YtgcfaamgilbjdaaGreatDoor

namespace Go.Proofs.YtgcfaamgilbjdaaGreatDoor
open Go Go.RowKit Go.Bl
/-- the blocks that p names may have turned, and new ones may have come -/
structure GrS (p : Nat → Prop) (w w' : World) : Prop where
  os : w'.os = w.os
  tape : w'.tape = w.tape
  output : w'.output = w.output
  size : w.heap.size ≤ w'.heap.size
  block : ∀ i, i < w.heap.size → ¬ p i → w'.heap[i]? = w.heap[i]?
section
variable {w w' w'' : World} {p q : Nat → Prop}

theorem GrS.refl (p : Nat → Prop) (w : World) : GrS p w w := ⟨rfl, rfl, rfl, Nat.le_refl _, fun _ _ _ => rfl⟩

theorem GrS.of {r : Option Nat} (k : w.grownBy w' r) (hr : ∀ x, r = some x → p x) : GrS p w w' :=
  ⟨k.os, k.tape, k.output, k.size, fun i hi h1 => k.block i hi (fun e => h1 (hr i e.symm))⟩

theorem GrS.trans (h : GrS p w w') (k : GrS p w' w'') : GrS p w w'' :=
  ⟨k.os.trans h.os, k.tape.trans h.tape, k.output.trans h.output, Nat.le_trans h.size k.size, fun i hi h1 => (k.block i (Nat.lt_of_lt_of_le hi h.size) h1).trans (h.block i hi h1)⟩

theorem GrS.step {r : Option Nat} (h : GrS p w w') (k : w'.grownBy w'' r) (hr : ∀ x, r = some x → p x ∨ w.heap.size ≤ x) : GrS p w w'' :=
  ⟨k.os.trans h.os, k.tape.trans h.tape, k.output.trans h.output, Nat.le_trans h.size k.size, fun i hi h1 => (k.block i (Nat.lt_of_lt_of_le hi h.size) (fun e => by
    rcases hr i e.symm with h2 | h2
    · exact h1 h2
    · omega)).trans (h.block i hi h1)⟩

theorem GrS.pure (h : GrS p w w') (k : w'.grownBy w'' none) : GrS p w w'' := h.step k (fun x e => by cases e)

theorem GrS.mono (h : GrS p w w') (hq : ∀ x, x < w.heap.size → p x → q x) : GrS q w w' := ⟨h.os, h.tape, h.output, h.size, fun i hi h1 => h.block i hi (fun h2 => h1 (hq i hi h2))⟩
/-- nothing that lay before has turned -/
theorem GrS.new (h : GrS p w w') {w0 : World} (hg : w0.grownBy w none) (hb : ∀ x, p x → w0.heap.size ≤ x) : w0.grownBy w' none :=
  ⟨h.os.trans hg.os, h.tape.trans hg.tape, h.output.trans hg.output, Nat.le_trans hg.size h.size, fun i hi _ => (h.block i (Nat.lt_of_lt_of_le hi hg.size) (fun h1 => by have := hb i h1; omega)).trans (hg.block i hi (by simp))⟩

theorem GrS.cell (h : GrS p w w') {a : Addr} (ha : a.block < w.heap.size) (hb : ¬ p a.block) : w'.cell? a = w.cell? a := World.cell?_of_block (h.block a.block ha hb)

theorem GrS.sl {α : Type} [Enc α] {lo : Nat} {A : Option Addr} {l : List α} (h : GrS p w w') (hl : Sl w lo A l) (hb : ∀ x, p x → x < lo) : Sl w' lo A l :=
  hl.keep fun a ha hs => h.cell hs (fun h1 => by have := hb _ h1; omega)

theorem box_block {x : Nat} {t : TypeId} {vs : List Value} (hl : Box w x t vs) (hx : w'.heap[x]? = w.heap[x]?) : Box w' x t vs := by
  refine ⟨?_, fun i v hv => ?_⟩
  · obtain ⟨cs, k, hh⟩ := hl.1
    exact ⟨cs, k, hx.trans hh⟩
  · obtain ⟨c1, c2⟩ := hl.c i hv
    exact ⟨(World.cell?_of_block (a := ⟨x, i, none⟩) hx).trans c1, by rw [World.frozen?_of_block (a := ⟨x, i, none⟩) hx]; exact c2⟩

theorem GrS.box {x : Nat} {t : TypeId} {vs : List Value} (h : GrS p w w') (hl : Box w x t vs) (hb : ¬ p x) : Box w' x t vs := box_block hl (h.block x hl.lt hb)
end

end Go.Proofs.YtgcfaamgilbjdaaGreatDoor
