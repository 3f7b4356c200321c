/- Contracts of functions that this seat's laws reach, each: what one call returns and what it leaves in memory; no condition beyond each theorem's own hypotheses. -/
import Derived.Test.YtanioobepfllgaaGreatDoorZqDelData
import Derived.Lib.AppendZerosOnto
import Derived.Lib.SliceRun
import Derived.Lib.AppendStr
set_option linter.unusedVariables false
set_option linter.unusedSimpArgs false
namespace Go.Bl
open Go Go.RowKit
variable {P : Program}

/-- the slices of a row, each with an address -/
def Heads {α : Type} [Enc α] (w : World) (rs : List RawS) (ls : List (List α)) : Prop := All2 (fun r l => r.n = l.length ∧ (∃ ad, r.A = some ad) ∧ Sl w 0 r.A l) rs ls

theorem Heads.pure {α : Type} [Enc α] {w w' : World} {rs : List RawS} {ls : List (List α)} (h : Heads w rs ls) (hg : w.grownBy w' none) : Heads w' rs ls := All2.imp h fun _ _ ⟨h1, h2, h3⟩ => ⟨h1, h2, h3.pure hg⟩
/-- the first k, one behind the other -/
def flatK {α : Type} (ls : List (List α)) (k : Nat) : List α := (ls.take k).flatten

theorem flatK_snoc {α : Type} {ls : List (List α)} {k : Nat} (h : k < ls.length) : flatK ls (k + 1) = flatK ls k ++ ls[k] := by
  unfold flatK; rw [List.take_succ_eq_append_getElem h, List.flatten_append]; simp

theorem flatK_all {α : Type} {ls : List (List α)} {k : Nat} (h : ls.length ≤ k) : flatK ls k = ls.flatten := by unfold flatK; rw [List.take_of_length_le h]

theorem flatK_le {α : Type} (ls : List (List α)) (k : Nat) : (flatK ls k).length ≤ (flatK ls ls.length).length := by
  rw [flatK_all (Nat.le_refl _)]
  have : ls.flatten = (ls.take k).flatten ++ (ls.drop k).flatten := by rw [← List.flatten_append, List.take_append_drop]
  rw [this, List.length_append]; unfold flatK; omega

/-- the outer k of both ends exchanged -/
def revK {α : Type} [Inhabited α] (l : List α) (k : Nat) : List α := (List.range l.length).map fun j => if j < k ∨ l.length - k ≤ j then l.getD (l.length - 1 - j) default else l.getD j default
section
variable {α : Type} [Inhabited α]

end

end Go.Bl

namespace Go.Bl
open Go

end Go.Bl

namespace Go.Bl
open Go
/-- n cells, st apart, that hold values of a class and may be written; their block is one of lo .. hi -/
def SpV (C : Value → Prop) (st : Nat) (w : World) (lo hi : Nat) (A : Option Addr) (n : Nat) : Prop := ∀ j, j < n → ∃ g o v, A = some ⟨g, o, none⟩ ∧ lo ≤ g ∧ g < hi ∧ C v ∧ Cell w g (o + j * st) v

theorem SpV.gr {C : Value → Prop} {st : Nat} {w w' : World} {lo hi : Nat} {A : Option Addr} {n : Nat} {q : Option Nat} (h : SpV C st w lo hi A n) (hg : w.grownBy w' q) (hq : ∀ g, q = some g → hi ≤ g ∨ g < lo) : SpV C st w' lo hi A n := fun j hj => by
  obtain ⟨g, o, v, h1, h2, h3, h4, h5⟩ := h j hj
  exact ⟨g, o, v, h1, h2, h3, h4, h5.gr hg (fun e => by have := hq g e; omega)⟩

theorem SpV.mono {C : Value → Prop} {st : Nat} {w : World} {lo hi lo' hi' : Nat} {A : Option Addr} {n : Nat} (h : SpV C st w lo hi A n) (h1 : lo' ≤ lo) (h2 : hi ≤ hi') : SpV C st w lo' hi' A n := fun j hj => by
  obtain ⟨g, o, v, e1, e2, e3, e4⟩ := h j hj
  exact ⟨g, o, v, e1, Nat.le_trans h1 e2, Nat.lt_of_lt_of_le e3 h2, e4⟩

theorem SpV.pure {C : Value → Prop} {st : Nat} {w w' : World} {lo hi : Nat} {A : Option Addr} {n : Nat} (h : SpV C st w lo hi A n) (hg : w.grownBy w' none) : SpV C st w' lo hi A n := h.gr hg (fun _ e => by cases e)

theorem SpV.set {C : Value → Prop} {st : Nat} {w : World} {lo hi : Nat} {A : Option Addr} {n : Nat} (h : SpV C st w lo hi A n) (g' i : Nat) (u : Value) (hu : C u) (h1 : u.oneCell' = true) : SpV C st (w.setCell ⟨g', i, none⟩ u) lo hi A n := fun j hj => by
  obtain ⟨g, o, v, e1, e2, e3, e4, e5⟩ := h j hj
  by_cases e : g' = g ∧ i = o + j * st
  · obtain ⟨rfl, rfl⟩ := e
    exact ⟨g', o, u, e1, e2, e3, hu, e5.set_ _⟩
  · refine ⟨g, o, v, e1, e2, e3, e4, ?_⟩
    by_cases e6 : g' = g
    · subst e6
      exact e5.set_ne _ (fun e7 => e ⟨rfl, e7⟩)
    · exact e5.gr (gr_set (World.grownBy.refl w (some g')) (p := ⟨g', i, none⟩) (.inl rfl) _) (fun e7 => e6 (by injection e7))

def IsI (v : Value) : Prop := ∃ x : Int, v = .int .i64 x

def IsS (v : Value) : Prop := ∃ x : ByteArray, v = .string x

section
variable {P : Program} {α : Type} [Enc α] [Flat α]

end

end Go.Bl
