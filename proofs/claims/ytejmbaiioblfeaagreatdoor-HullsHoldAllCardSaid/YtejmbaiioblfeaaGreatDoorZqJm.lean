/- Contracts of functions that this seat's laws reach, each: what one call returns and what it leaves in memory; no condition beyond each theorem's own hypotheses. -/
import Derived.Test.YtejmbaiioblfeaaGreatDoorZqTree
import Derived.Test.YtejmbaiioblfeaaGreatDoorZqKit3
set_option linter.unusedVariables false
set_option linter.unusedSimpArgs false
namespace Go.Bl
open Go

def Typ (w : World) (g : Nat) (t : TypeId) : Prop := ∃ cs k, w.heap[g]? = some (.cells cs t k)

theorem Typ.new (w : World) (cs : Array Value) (t : TypeId) : Typ (w.alloc (.cells cs t)) w.heap.size t := ⟨cs, (0, 0), heap_alloc_new w _⟩

theorem Typ.lt {w : World} {g : Nat} {t : TypeId} (h : Typ w g t) : g < w.heap.size := by
  obtain ⟨cs, k, h⟩ := h
  exact (Array.getElem?_eq_some_iff.1 h).1

theorem Typ.gr {w w' : World} {g : Nat} {t : TypeId} {r : Option Nat} (h : Typ w g t) (hg : w.grownBy w' r) (hr : r ≠ some g) : Typ w' g t := by
  have hl := h.lt
  obtain ⟨cs, k, h⟩ := h
  exact ⟨cs, k, (hg.block g hl (Ne.symm hr)).trans h⟩

theorem Typ.uniq {w : World} {g : Nat} {t u : TypeId} (h : Typ w g t) (k : Typ w g u) : t = u := by
  obtain ⟨cs, k1, h⟩ := h
  obtain ⟨cs', k2, k⟩ := k
  rw [h] at k
  injection k with k
  injection k

theorem Own.typ {α : Type} [Enc α] {w : World} {lo : Nat} {e : TypeId} {A : Option Addr} {c : Nat} {l : List α} (h : Own w lo e A c l) {g : Nat} (hg : blk A = some g) : Typ w g e := by
  obtain ⟨_, cs, _, ho⟩ := h
  rcases ho.2 with ⟨h1, _⟩ | ⟨g', cap, cur, hv, _, hh, _⟩
  · injection h1 with h1
    subst h1
    cases hg
  · injection hv with hv
    subst hv
    simp only [blk, Option.map_some, Option.some.injEq] at hg
    subst hg
    exact ⟨cur, _, hh⟩
/-- a block of a type whose first cells are known and open -/
def Box (w : World) (g : Nat) (t : TypeId) (vs : List Value) : Prop := Typ w g t ∧ ∀ i v, vs[i]? = some v → Cell w g i v
section
variable {w w' : World} {g : Nat} {t : TypeId} {vs : List Value}

theorem Box.new (w : World) (vs : List Value) (t : TypeId) : Box (w.alloc (.cells vs.toArray t)) w.heap.size t vs := ⟨Typ.new _ _ _, fun i v h => Cell.new w vs t i v h _ rfl⟩

theorem Box.lt (h : Box w g t vs) : g < w.heap.size := h.1.lt

theorem Box.c (h : Box w g t vs) (i : Nat) {v : Value} (hv : vs[i]? = some v) : Cell w g i v := h.2 i v hv

theorem Box.gr {r : Option Nat} (h : Box w g t vs) (hg : w.grownBy w' r) (hr : r ≠ some g) : Box w' g t vs := ⟨h.1.gr hg hr, fun i v hv => (h.2 i v hv).gr hg hr⟩

theorem Box.pure (h : Box w g t vs) (hg : w.grownBy w' none) : Box w' g t vs := h.gr hg (by simp)

theorem Typ.set_ (h : Typ w g t) (p : Addr) (v : Value) : Typ (w.setCell p v) g t := by
  obtain ⟨cs, k, h⟩ := h
  unfold World.setCell
  by_cases hp : p.block = g
  · subst hp
    exact ⟨if p.spot.isSome then cs else cs.setIfInBounds p.off v, k, by simp only [Array.getElem?_modify, if_true, h, Option.map_some]⟩
  · exact ⟨cs, k, by simp only [Array.getElem?_modify, if_neg hp, h]⟩

theorem Box.set_ (h : Box w g t vs) (i : Nat) (v : Value) (hi : i < vs.length) : Box (w.setCell ⟨g, i, none⟩ v) g t (vs.set i v) := by
  refine ⟨h.1.set_ _ _, fun j u hu => ?_⟩
  rw [List.getElem?_set] at hu
  by_cases hij : i = j
  · subst hij
    rw [if_pos rfl, if_pos hi] at hu
    injection hu with hu
    subst hu
    exact (h.2 i vs[i] (List.getElem?_eq_getElem hi)).set_ v
  · rw [if_neg hij] at hu
    exact (h.2 j u hu).set_ne v hij

theorem Box.set_other (h : Box w g t vs) {g' i : Nat} (v : Value) (hg : g' ≠ g) : Box (w.setCell ⟨g', i, none⟩ v) g t vs := h.gr (gr_set (World.grownBy.refl w (some g')) (p := ⟨g', i, none⟩) (.inl rfl) v) (fun e => hg (by injection e))

theorem Own.set_other {α : Type} [Enc α] [Flat α] {lo : Nat} {e : TypeId} {A : Option Addr} {c : Nat} {l : List α} (h : Own w lo e A c l) {g' i : Nat} (v : Value) (hg : blk A ≠ some g') : Own (w.setCell ⟨g', i, none⟩ v) lo e A c l :=
  h.ne (gr_set (World.grownBy.refl w (some g')) (p := ⟨g', i, none⟩) (.inl rfl) v) (fun x hx e => hg (by rw [hx]; exact e.symm))

theorem Box.ne_own {α : Type} [Enc α] {lo : Nat} {e : TypeId} {A : Option Addr} {c : Nat} {l : List α} (h : Box w g t vs) (ho : Own w lo e A c l) (hne : e ≠ t) : blk A ≠ some g := fun e1 => hne ((ho.typ e1).uniq h.1)

theorem Box.sl {α : Type} [Enc α] {lo : Nat} {l : List α} (h : Box w g t vs) (hr : Row w lo l vs) (hl : lo ≤ g) (hm : l.length ≤ maxLen) : Sl w lo (some ⟨g, 0, none⟩) l :=
  ⟨hm, vs, hr, fun _ => ⟨_, rfl, hl, fun j u hu => by rw [Addr.add_lit, Nat.zero_add]; exact (h.2 j u hu).1⟩⟩

theorem Own.ne_own {α β : Type} [Enc α] [Enc β] {lo lo' : Nat} {e e' : TypeId} {A A' : Option Addr} {c c' : Nat} {l : List α} {l' : List β} (h : Own w lo e A c l) (h' : Own w lo' e' A' c' l') (hne : e ≠ e') {x : Nat} (hx : blk A = some x) : blk A' ≠ some x := fun e1 => hne ((h.typ hx).uniq (h'.typ e1))
end

end Go.Bl
