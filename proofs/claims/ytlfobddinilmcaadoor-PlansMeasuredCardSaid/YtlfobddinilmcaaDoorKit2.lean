/- Small laws for walks: what a step may write, facts that stay, rows that hold slices. -/
import Derived.Test.YtlfobddinilmcaaDoorInv2
import Derived.Test.YtlfobddinilmcaaDoorNest
import Derived.Test.YtlfobddinilmcaaDoorCopy
import Derived.Deep.DeepCutAuto
set_option linter.unusedVariables false
set_option linter.unusedSimpArgs false
namespace Go.Bl
open Go Go.RowKit
variable {P : Program}

/-- a step that writes at most one old block, of which p holds -/
def Wrt (p : Nat → Prop) (w w' : World) : Prop := ∃ r, w.grownBy w' r ∧ ∀ g, r = some g → p g
theorem Wrt.pure {p : Nat → Prop} {w w' : World} (h : w.grownBy w' none) : Wrt p w w' := ⟨none, h, fun g e => by cases e⟩
theorem Wrt.one {p : Nat → Prop} {w w' : World} {g : Nat} (h : w.grownBy w' (some g)) (hp : p g) : Wrt p w w' := ⟨some g, h, fun g' e => by cases e; exact hp⟩
theorem Wrt.mono {p q : Nat → Prop} {w w' : World} (h : Wrt p w w') (hpq : ∀ g, p g → q g) : Wrt q w w' := let ⟨r, h1, h2⟩ := h; ⟨r, h1, fun g e => hpq g (h2 g e)⟩
theorem Sl.wrt {α : Type} [Enc α] {p : Nat → Prop} {w w' : World} {lo : Nat} {A : Option Addr} {l : List α} (h : Sl w lo A l) (hw : Wrt p w w') (hp : ∀ g, p g → g < lo) : Sl w' lo A l := let ⟨_, h1, h2⟩ := hw; h.gr h1 fun g e => hp g (h2 g e)
theorem Own.wrt {α : Type} [Enc α] {p : Nat → Prop} {w w' : World} {lo : Nat} {e : TypeId} {A : Option Addr} {c : Nat} {l : List α} (h : Own w lo e A c l) (hw : Wrt p w w') (hp : ∀ g, p g → g < lo) : Own w' lo e A c l := let ⟨_, h1, h2⟩ := hw; h.keep h1 fun g e => hp g (h2 g e)
theorem Wrt.cell {p : Nat → Prop} {w w' : World} {q : Addr} {v : Value} (hw : Wrt p w w') (h : w.cell? q = some v) (hp : ¬ p q.block) : w'.cell? q = some v := let ⟨_, h1, h2⟩ := hw; gr_cell h1 h (fun e => hp (h2 _ e))
theorem Wrt.froz {p : Nat → Prop} {w w' : World} {q : Addr} {v : Value} (hw : Wrt p w w') (h : w.cell? q = some v) (hf : w.frozen? q = false) (hp : ¬ p q.block) : w'.frozen? q = false := let ⟨_, h1, h2⟩ := hw; gr_froz h1 h (fun e => hp (h2 _ e)) hf

/-- a fact of each operation's value that stays -/
def Stab (M : (Nat → Bool) → World → World → Prop) : Nat → List (Value → World → Prop) → Prop
  | _, [] => True
  | i, φ :: r => (∀ (m : Nat → Bool) v w w', m i = true → M m w w' → φ v w → φ v w') ∧ Stab M (i + 1) r
theorem Stab.at_ {M : (Nat → Bool) → World → World → Prop} : ∀ {Φ : List (Value → World → Prop)} {j : Nat}, Stab M j Φ → ∀ (i : Nat) (m : Nat → Bool) v w w', m (j + i) = true → M m w w' → Φ.getD i (fun _ _ => False) v w → Φ.getD i (fun _ _ => False) v w'
  | [], _, _, i, _, _, _, _, _, _, h => by simp at h
  | _ :: _, _, hs, 0, m, v, w, w', hm, hM, h => hs.1 m v w w' hm hM h
  | _ :: r, j, hs, i + 1, m, v, w, w', hm, hM, h => by
    have := Stab.at_ (Φ := r) hs.2 i m v w w' (by rw [← hm]; congr 1; omega) hM (by simpa using h)
    simpa using this
theorem Stab.ok {M : (Nat → Bool) → World → World → Prop} {Φ : List (Value → World → Prop)} (h : Stab M 0 Φ) : ∀ (i : Nat) (m : Nat → Bool) v w w', m i = true → M m w w' → Φ.getD i (fun _ _ => False) v w → Φ.getD i (fun _ _ => False) v w' := fun i m v w w' hm => h.at_ i m v w w' (by simpa using hm)

def VIs (x : Value) : Value → World → Prop := fun v _ => v = x
def VInt : Value → World → Prop := fun v _ => ∃ r, v = .int .i64 r
def VIntP (p : Int → Prop) : Value → World → Prop := fun v _ => ∃ r, v = .int .i64 r ∧ p r
def VBool : Value → World → Prop := fun v _ => ∃ r, v = .bool r
def VLit {α : Type} [Enc α] (lo n : Nat) : Value → World → Prop := fun v w => ∃ (g : Nat) (l : List α), v = .slice (some ⟨g, 0, none⟩) n n ∧ l.length = n ∧ Sl w lo (some ⟨g, 0, none⟩) l
def VLitI (lo : Nat) (l : List Int) : Value → World → Prop := fun v w => ∃ (g : Nat), v = .slice (some ⟨g, 0, none⟩) l.length l.length ∧ Sl w lo (some ⟨g, 0, none⟩) l
theorem VLit.stab {α : Type} [Enc α] {p : Nat → Prop} {lo n : Nat} {v : Value} {w w' : World} (h : VLit (α := α) lo n v w) (hw : Wrt p w w') (hp : ∀ g, p g → g < lo) : VLit (α := α) lo n v w' := let ⟨g, l, h1, h2, h3⟩ := h; ⟨g, l, h1, h2, h3.wrt hw hp⟩
theorem VLitI.stab {p : Nat → Prop} {lo : Nat} {l : List Int} {v : Value} {w w' : World} (h : VLitI lo l v w) (hw : Wrt p w w') (hp : ∀ g, p g → g < lo) : VLitI lo l v w' := let ⟨g, h1, h3⟩ := h; ⟨g, h1, h3.wrt hw hp⟩

/-- one old or new cell of an open block -/
def Cell (w : World) (g o : Nat) (v : Value) : Prop := w.cell? ⟨g, o, none⟩ = some v ∧ w.frozen? ⟨g, o, none⟩ = false
theorem Cell.gr {w w' : World} {g o : Nat} {v : Value} {r : Option Nat} (h : Cell w g o v) (hg : w.grownBy w' r) (hr : r ≠ some g) : Cell w' g o v := ⟨gr_cell hg h.1 (by simpa using hr), gr_froz hg h.1 (by simpa using hr) h.2⟩
theorem Cell.wrt {p : Nat → Prop} {w w' : World} {g o : Nat} {v : Value} (h : Cell w g o v) (hw : Wrt p w w') (hp : ¬ p g) : Cell w' g o v := let ⟨_, h1, h2⟩ := hw; h.gr h1 (fun e => hp (h2 _ e))
theorem Cell.lt {w : World} {g o : Nat} {v : Value} (h : Cell w g o v) : g < w.heap.size := cell_lt h.1
theorem Cell.set_ {w : World} {g o : Nat} {v : Value} (h : Cell w g o v) (u : Value) : Cell (w.setCell ⟨g, o, none⟩ u) g o u := ⟨World.cell?_setCell_same w _ _ h.1, by rw [World.frozen?_setCell]; exact h.2⟩
theorem Cell.set_ne {w : World} {g o o' : Nat} {v : Value} (h : Cell w g o v) (u : Value) (hne : o' ≠ o) : Cell (w.setCell ⟨g, o', none⟩ u) g o v := ⟨(World.cell?_setCell_other w ⟨g, o', none⟩ ⟨g, o, none⟩ u (by simp only [ne_eq, Addr.mk.injEq, true_and, and_true]; exact hne)).trans h.1, by rw [World.frozen?_setCell]; exact h.2⟩
theorem Cell.new (w : World) (cs : List Value) (t : TypeId) (o : Nat) (v : Value) (h : cs[o]? = some v) (g : Nat) (hg : g = w.heap.size) : Cell (w.alloc (.cells cs.toArray t)) g o v := by
  subst hg
  exact ⟨by rw [cell_of_row _ w.heap.size o _ t (0, 0) (heap_alloc_new w _)]; simpa using h, frozen_of_row _ w.heap.size o _ t (heap_alloc_new w _)⟩

theorem SOut.set {b : Nat} {N : Int} {w w1 : World} {p : Addr} (h : SOut b N w w1) (hb : b < w.heap.size) (hp : w.heap.size ≤ p.block) (v : Value) : SOut b N w (w1.setCell p v) :=
  ⟨gr_set h.1 (.inr hp) v, h.2.gr (r := some p.block) (gr_set (World.grownBy.refl _ _) (.inl rfl) v) (fun g e => by cases e; omega)⟩
theorem SOut.al {b : Nat} {N : Int} {w w1 : World} (h : SOut b N w w1) (o : Obj) : SOut b N w (w1.alloc o) := h.pure (gr_alloc (World.grownBy.refl _ _) o)
theorem SOut.drew {b : Nat} {N : Int} {w w1 : World} (h : SOut b N w w1) : SOut b N w w1.drew := h.pure (gr_drew (World.grownBy.refl _ _))
theorem SOut.drewN {b : Nat} {N : Int} {w w1 : World} (h : SOut b N w w1) (n : Nat) : SOut b N w (w1.drewN n) := h.pure (gr_drewN (World.grownBy.refl _ _) n)
theorem SOut.size {b : Nat} {N : Int} {w w1 : World} (h : SOut b N w w1) : w.heap.size ≤ w1.heap.size := h.1.size
/-- what is written in blocks that are new since w -/
theorem SOut.new {b : Nat} {N : Int} {w w1 w2 : World} (h : SOut b N w w1) (hb : b < w.heap.size) {r : Option Nat} (hg : w1.grownBy w2 r) (hr : ∀ g, r = some g → w.heap.size ≤ g) : SOut b N w w2 :=
  ⟨gr_row h.1 hg hr, h.2.gr hg (fun g e => by have := hr g e; omega)⟩
theorem Own.cell_at {α : Type} [Enc α] {w : World} {lo : Nat} {e : TypeId} {g c : Nat} {l : List α} (h : Own w lo e (some ⟨g, 0, none⟩) c l) (hs : 0 < Enc.sz α) {i : Nat} (hi : i < l.length) :
    ∃ c1, Enc.rep w lo l[i] c1 ∧ ∀ j u, c1[j]? = some u → w.cell? ⟨g, i * Enc.sz α + j, none⟩ = some u := by
  obtain ⟨g', o, c1, hA, _, _, hr, hc⟩ := h.sl.at_ hs hi
  injection hA with hA
  injection hA with e1 e2
  subst e1
  subst e2
  exact ⟨c1, hr, fun j u hu => by have := hc j u hu; rwa [Nat.zero_add] at this⟩
theorem gr_tail {w w1 w2 : World} {r : Option Nat} (k : w1.grownBy w2 r) (h : w.grownBy w1 r) : w.grownBy w2 r := gr_trans h k
theorem heap_set (w : World) (p : Addr) (v : Value) : (w.setCell p v).heap.size = w.heap.size := by simp [World.setCell]
theorem SOut.strm {b : Nat} {N : Int} {w w' : World} (h : SOut b N w w') : Strm w' b N := h.2
end Go.Bl
