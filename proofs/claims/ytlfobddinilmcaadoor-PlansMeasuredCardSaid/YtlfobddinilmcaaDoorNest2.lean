/- Rows whose elements hold a slice each: lists of lists, while they are built. -/
import Derived.Test.YtlfobddinilmcaaDoorKit2
set_option linter.unusedVariables false
set_option linter.unusedSimpArgs false
namespace Go.Bl
open Go

inductive All2 {α β : Type} (R : α → β → Prop) : List α → List β → Prop
  | nil : All2 R [] []
  | cons {a : α} {b : β} {l : List α} {m : List β} : R a b → All2 R l m → All2 R (a :: l) (b :: m)
theorem All2.len {α β : Type} {R : α → β → Prop} {l : List α} {m : List β} (h : All2 R l m) : l.length = m.length := by induction h <;> simp_all
theorem All2.imp {α β : Type} {R S : α → β → Prop} {l : List α} {m : List β} (h : All2 R l m) (hi : ∀ a b, R a b → S a b) : All2 S l m := by
  induction h with
  | nil => exact .nil
  | cons h _ ih => exact .cons (hi _ _ h) ih
theorem All2.snoc {α β : Type} {R : α → β → Prop} {l : List α} {m : List β} {a : α} {b : β} (h : All2 R l m) (hab : R a b) : All2 R (l ++ [a]) (m ++ [b]) := by
  induction h with
  | nil => exact .cons hab .nil
  | cons h _ ih => exact .cons h ih
theorem All2.set_ {α β : Type} {R : α → β → Prop} {l : List α} {m : List β} {a : α} {b : β} (h : All2 R l m) (i : Nat) (hab : R a b) : All2 R (l.set i a) (m.set i b) := by
  induction h generalizing i with
  | nil => exact .nil
  | cons h h2 ih => cases i with
    | zero => exact .cons hab h2
    | succ i => exact .cons h (ih i)
theorem All2.get {α β : Type} {R : α → β → Prop} {l : List α} {m : List β} (h : All2 R l m) (i : Nat) (h1 : i < l.length) (h2 : i < m.length) : R l[i] m[i] := by
  induction h generalizing i with
  | nil => simp at h1
  | cons h h2 ih => cases i with
    | zero => exact h
    | succ i => exact ih i _ _

/-- a flat row's element ρ holds a slice and reads as α -/
class NestOf (ρ α : Type) [Enc ρ] [Flat ρ] [Enc α] where
  adr : ρ → Option Addr
  ok : World → Nat → ρ → α → Prop
  gr : ∀ {w w' : World} {lo : Nat} {r : ρ} {x : α} {q : Option Nat}, ok w lo r x → w.grownBy w' q → (∀ g, blk (adr r) = some g → q ≠ some g) → ok w' lo r x
  rep : ∀ {w : World} {lo : Nat} {r : ρ} {x : α} {cs : List Value}, ok w lo r x → Enc.rep w lo r cs → Enc.rep w lo x cs
  lt : ∀ {w : World} {lo : Nat} {r : ρ} {x : α} {g : Nat}, ok w lo r x → blk (adr r) = some g → lo ≤ g ∧ g < w.heap.size

section
variable {ρ α : Type} [Enc ρ] [Flat ρ] [Enc α] [NestOf ρ α]
def NOk (ρ : Type) {α : Type} [Enc ρ] [Flat ρ] [Enc α] [NestOf ρ α] (w : World) (lo : Nat) (A : Option Addr) (r : ρ) (x : α) : Prop := NestOf.ok w lo r x ∧ ∀ g, blk (NestOf.adr α r) = some g → blk A ≠ some g
/-- a row of one's own whose elements hold slices -/
def OwnN (ρ : Type) {α : Type} [Enc ρ] [Flat ρ] [Enc α] [NestOf ρ α] (w : World) (lo : Nat) (e : TypeId) (A : Option Addr) (c : Nat) (l : List α) : Prop :=
  ∃ raws : List ρ, Own w lo e A c raws ∧ All2 (NOk ρ w lo A) raws l

variable {w w' : World} {lo : Nat} {e : TypeId} {A : Option Addr} {c : Nat} {l : List α}
theorem row_nest {raws : List ρ} {cs : List Value} (h : Row w lo raws cs) (ha : All2 (NOk ρ w lo A) raws l) : Row w lo l cs := by
  induction ha generalizing cs with
  | nil => exact h
  | cons hx _ ih =>
    obtain ⟨c1, c2, rfl, h1, h2⟩ := h
    exact ⟨c1, c2, rfl, NestOf.rep hx.1 h1, ih h2⟩
theorem All2.sout {raws : List ρ} {b : Nat} {N : Int} (h : All2 (NOk ρ w lo A) raws l) (hs : SOut b N w w') (hb : b < lo) : All2 (NOk ρ w' lo A) raws l :=
  h.imp fun r x hx => ⟨NestOf.gr hx.1 hs.1 fun g hg e => by cases e; have := (NestOf.lt hx.1 hg).1; omega, hx.2⟩
theorem All2.grN {raws : List ρ} (h : All2 (NOk ρ w lo A) raws l) (hg : w.grownBy w' none) : All2 (NOk ρ w' lo A) raws l :=
  h.imp fun r x hx => ⟨NestOf.gr hx.1 hg (fun g _ e => by cases e), hx.2⟩
theorem All2.grB {raws : List ρ} {q : Option Nat} (h : All2 (NOk ρ w lo A) raws l) (hg : w.grownBy w' q) (hq : q = blk A) : All2 (NOk ρ w' lo A) raws l :=
  h.imp fun r x hx => ⟨NestOf.gr hx.1 hg fun g hb => by rw [hq]; exact hx.2 g hb, hx.2⟩
theorem OwnN.nil (w : World) (lo : Nat) (e : TypeId) : OwnN ρ w lo e none 0 ([] : List α) := ⟨[], Own.nil w lo e, .nil⟩
theorem OwnN.sl (h : OwnN ρ w lo e A c l) : Sl w lo A l := by
  obtain ⟨raws, ho, ha⟩ := h
  obtain ⟨hm, cs, hr, hl⟩ := ho.sl
  exact ⟨by rw [← ha.len]; exact hm, cs, row_nest hr ha, hl⟩
theorem OwnN.len (h : OwnN ρ w lo e A c l) : l.length ≤ maxLen := h.sl.1
theorem OwnN.keep {q : Option Nat} (h : OwnN ρ w lo e A c l) (hg : w.grownBy w' q) (hq : ∀ g, q = some g → g < lo) : OwnN ρ w' lo e A c l := by
  obtain ⟨raws, ho, ha⟩ := h
  exact ⟨raws, ho.keep hg hq, ha.imp fun r x hx => ⟨NestOf.gr hx.1 hg fun g hb e => by have := (NestOf.lt hx.1 hb).1; have := hq g e; omega, hx.2⟩⟩
theorem OwnN.pure (h : OwnN ρ w lo e A c l) (hg : w.grownBy w' none) : OwnN ρ w' lo e A c l := h.keep hg (fun g e => by cases e)
theorem OwnN.s {b : Nat} {N : Int} (h : OwnN ρ w lo e A c l) (k : SOut b N w w') (hb : b < lo) : OwnN ρ w' lo e A c l := h.keep k.1 (fun g e => by cases e; exact hb)
theorem OwnN.push {raws : List ρ} {A' : Option Addr} {c' : Nat} {r : ρ} {x : α} (ha : All2 (NOk ρ w lo A) raws l) (ho' : Own w' lo e A' c' (raws ++ [r])) (hG : Grew A A' w w') (hx : NOk ρ w lo A r x) : OwnN ρ w' lo e A' c' (l ++ [x]) := by
  refine ⟨raws ++ [r], ho', (ha.snoc hx).imp fun r x hx => ⟨NestOf.gr hx.1 hG.1 fun g hb => hx.2 g hb, fun g hb => ?_⟩⟩
  rcases hG.2 with h | h
  · rw [h]; exact hx.2 g hb
  · rw [h]; have := (NestOf.lt hx.1 hb).2; intro e; injection e; omega
end

/-- a slice as it lies in a row -/
structure RawS where
  A : Option Addr
  n : Nat
  c : Nat
instance : Enc RawS where
  sz := 1
  rep := fun _ _ p cs => cs = [.slice p.A p.n p.c]
  len := by rintro w lo x cs rfl; rfl
  one := by rintro w lo x cs rfl u hu; simp at hu; rcases hu with rfl; rfl
  keep := fun h _ => h
  mono := fun h _ => h
instance : Flat RawS := ⟨fun h => h, by decide⟩
instance {α : Type} [Enc α] : Enc (List α) where
  sz := 1
  rep := fun w lo l cs => ∃ A c, cs = [.slice A l.length c] ∧ l.length ≤ c ∧ Sl w lo A l
  len := by rintro w lo x cs ⟨A, c, rfl, _, _⟩; rfl
  one := by rintro w lo x cs ⟨A, c, rfl, _, _⟩ u hu; simp at hu; rcases hu with rfl; rfl
  keep := fun ⟨A, c, h1, h0, h2⟩ hk => ⟨A, c, h1, h0, h2.keep hk⟩
  mono := fun ⟨A, c, h1, h0, h2⟩ hl => ⟨A, c, h1, h0, h2.mono hl⟩
instance {α : Type} [Enc α] [Flat α] : NestOf RawS (List α) where
  adr := fun r => r.A
  ok := fun w lo r x => r.n = x.length ∧ r.n ≤ r.c ∧ Sl w lo r.A x ∧ ∀ g, blk r.A = some g → lo ≤ g ∧ g < w.heap.size
  gr := fun ⟨h1, h0, h2, h3⟩ hg hq => ⟨h1, h0, h2.ne hg hq, fun g hb => ⟨(h3 g hb).1, Nat.lt_of_lt_of_le (h3 g hb).2 hg.size⟩⟩
  rep := fun {_ _ r _ _} ⟨h1, h0, h2, _⟩ hr => ⟨r.A, r.c, by rw [← h1]; exact hr, by rw [← h1]; exact h0, h2⟩
  lt := fun ⟨_, _, _, h3⟩ hb => h3 _ hb
end Go.Bl
