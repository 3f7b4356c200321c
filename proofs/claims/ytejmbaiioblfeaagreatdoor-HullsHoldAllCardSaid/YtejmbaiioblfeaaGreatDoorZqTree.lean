/- Contracts of functions that this seat's laws reach, each: what one call returns and what it leaves in memory; no condition beyond each theorem's own hypotheses. -/
import Derived.WalkKit
import Derived.WalkSpells
import Derived.WalkLawsBesides
import Derived.Deep.QuietTactic
import Derived.BigQuiet
import Derived.Deep.AppendLies
import Derived.Deep.Draws
import Derived.Maps.AppendAt
import Derived.Laws.CopyRow
import Derived.Laws.MakeOwn
set_option linter.unusedVariables false
set_option linter.unusedSimpArgs false
namespace Go.Bl
open Go.RowKit

theorem ret_int {k : IntKind} {a b : Int} (h : a = b) : Ending.returned (.int k a) = .returned (.int k b) := by rw [h]

theorem ret_bool {a b : Bool} (h : a = b) : Ending.returned (.bool a) = .returned (.bool b) := by rw [h]

theorem hide {p : Prop} (h : p) : Hid p := h

theorem i64_in {n : Int} (h : -9223372036854775808 ≤ n ∧ n ≤ 9223372036854775807) : wrap64 n = n := IntWalk.wrap64_in n h

theorem tmod_pos {x n : Int} (h : 0 ≤ x.tmod n) (hn : 1 ≤ n) : x.tmod n = x % n := by
  rcases Int.le_total 0 x with hx | hx
  · exact Int.tmod_eq_emod_of_nonneg hx
  · have h1 : x.tmod n = -((-x).tmod n) := by rw [Int.neg_tmod, Int.neg_neg]
    have h2 : (-x).tmod n = (-x) % n := Int.tmod_eq_emod_of_nonneg (by omega)
    have h3 : 0 ≤ (-x) % n := Int.emod_nonneg _ (by omega)
    have h4 : (-x) % n = 0 := by omega
    have h5 : n ∣ x := (Int.dvd_neg).1 (Int.dvd_of_emod_eq_zero h4)
    rw [Int.emod_eq_zero_of_dvd h5]; omega

theorem tmod_neg {x n : Int} (h : x.tmod n < 0) (hn : 1 ≤ n) : x.tmod n + n = x % n := by
  rcases Int.le_total 0 x with hx | hx
  · have h1 := Int.emod_nonneg x (show n ≠ 0 by omega)
    rw [Int.tmod_eq_emod_of_nonneg hx] at h
    exact absurd h (Int.not_lt.2 h1)
  · have h1 : x.tmod n = -((-x).tmod n) := by rw [Int.neg_tmod, Int.neg_neg]
    have h2 : (-x).tmod n = (-x) % n := Int.tmod_eq_emod_of_nonneg (by omega)
    rw [h1, h2] at h ⊢
    have h3 : (-x) % n < n := Int.emod_lt_of_pos _ (by omega)
    have h4 := Int.emod_add_mul_ediv (-x) n
    generalize (-x) % n = r at *
    generalize (-x) / n = q at *
    have h5 : x = (n - r) + n * (-q - 1) := by
      have e : n * (-q - 1) = -(n * q) - n := by rw [Int.mul_sub, Int.mul_neg, Int.mul_one]
      rw [e]; omega
    have h6 : ((n - r) + n * (-q - 1)) % n = n - r := by
      rw [Int.add_mul_emod_self_left]; exact Int.emod_eq_of_lt (by omega) (by omega)
    rw [← h5] at h6
    rw [h6]; omega

theorem tmod_bd (x : Int) {n : Int} (hn : 1 ≤ n) : -n ≤ x.tmod n ∧ x.tmod n < n := by
  have h2 := Int.emod_nonneg x (show n ≠ 0 by omega)
  have h3 := Int.emod_lt_of_pos x (show 0 < n by omega)
  rcases Int.lt_or_le (x.tmod n) 0 with h | h
  · have h1 := tmod_neg h hn
    rw [← h1] at h2 h3; omega
  · have h1 := tmod_pos h hn
    generalize x % n = r at *; omega

theorem block_of_add (a : Addr) (n : Nat) : (a.add n).block = a.block := by unfold Addr.add; split <;> rfl

/-! ## the frame of a step: all blocks but one are as they were -/
section
variable {w w1 w2 : World} {r : Option Nat}

theorem gr_trans (h : w.grownBy w1 r) (k : w1.grownBy w2 r) : w.grownBy w2 r :=
  ⟨k.os.trans h.os, k.tape.trans h.tape, k.output.trans h.output, Nat.le_trans h.size k.size, fun i hi hr => (k.block i (Nat.lt_of_lt_of_le hi h.size) hr).trans (h.block i hi hr)⟩

theorem gr_new {g : Nat} (h : w.grownBy w1 r) (k : w1.grownBy w2 (some g)) (hg : w.heap.size ≤ g) : w.grownBy w2 r :=
  ⟨k.os.trans h.os, k.tape.trans h.tape, k.output.trans h.output, Nat.le_trans h.size k.size, fun i hi hr => (k.block i (Nat.lt_of_lt_of_le hi h.size) (fun e => by injection e with e; omega)).trans (h.block i hi hr)⟩

theorem gr_row {q : Option Nat} (h : w.grownBy w1 r) (k : w1.grownBy w2 q) (hg : ∀ g, q = some g → w.heap.size ≤ g) : w.grownBy w2 r := by
  rcases q with _ | g
  · exact ⟨k.os.trans h.os, k.tape.trans h.tape, k.output.trans h.output, Nat.le_trans h.size k.size, fun i hi hr => (k.block i (Nat.lt_of_lt_of_le hi h.size) (fun e => by cases e)).trans (h.block i hi hr)⟩
  · exact gr_new h k (hg g rfl)

theorem gr_any (h : w.grownBy w1 none) : w.grownBy w1 r := ⟨h.os, h.tape, h.output, h.size, fun i hi _ => h.block i hi (fun e => by cases e)⟩

theorem gr_step (h : w.grownBy w1 r) (k : w1.grownBy w2 none) : w.grownBy w2 r := gr_trans h (gr_any k)

theorem gr_drewN (h : w.grownBy w1 r) (n : Nat) : w.grownBy (w1.drewN n) r := ⟨h.os, h.tape, h.output, h.size, h.block⟩

theorem gr_drew (h : w.grownBy w1 r) : w.grownBy w1.drew r := ⟨h.os, h.tape, h.output, h.size, h.block⟩

theorem gr_alloc (h : w.grownBy w1 r) (o : Obj) : w.grownBy (w1.alloc o) r := gr_step h (World.grownBy_alloc w1 o none)

theorem gr_set {p : Addr} (h : w.grownBy w1 r) (hp : some p.block = r ∨ w.heap.size ≤ p.block) (u : Value) : w.grownBy (w1.setCell p u) r :=
  ⟨h.os, h.tape, h.output, by simpa [World.setCell] using h.size, fun i hi hr => (Below.heap_setCell w1 p u i (by
    rintro rfl
    rcases hp with hp | hp
    · exact hr hp
    · omega)).trans (h.block i hi hr)⟩

theorem gr_below (h : Below w.heap.size w w1) : w.grownBy w1 r := ⟨h.os, h.tape, h.output, h.size, fun i hi _ => h.block i hi⟩

theorem below_gr (h : w.grownBy w1 none) : Below w.heap.size w w1 := ⟨h.os, h.tape, h.output, h.size, fun i hi => h.block i hi (fun e => by cases e)⟩

theorem gr_cell (h : w.grownBy w1 r) {p : Addr} {v : Value} (hc : w.cell? p = some v) (hne : r ≠ some p.block) : w1.cell? p = some v := h.cell hc (fun e => hne e.symm)
end

/-! ## data in memory -/
class Enc (α : Type) where
  sz : Nat
  rep : World → Nat → α → List Value → Prop
  len : ∀ {w lo x cs}, rep w lo x cs → cs.length = sz
  one : ∀ {w lo x cs}, rep w lo x cs → ∀ u ∈ cs, u.oneCell' = true
  keep : ∀ {w w' lo x cs}, rep w lo x cs → (∀ p : Addr, lo ≤ p.block → p.block < w.heap.size → w'.cell? p = w.cell? p) → rep w' lo x cs
  mono : ∀ {w lo lo' x cs}, rep w lo x cs → lo' ≤ lo → rep w lo' x cs

instance : Enc Int where
  sz := 1
  rep := fun _ _ x cs => cs = [.int .i64 x]
  len := by rintro w lo x cs rfl; rfl
  one := by rintro w lo x cs rfl u hu; simp at hu; subst hu; rfl
  keep := fun h _ => h
  mono := fun h _ => h

section
variable {α : Type} [Enc α]

def Row (w : World) (lo : Nat) : List α → List Value → Prop
  | [], cs => cs = []
  | x :: l, cs => ∃ c1 c2, cs = c1 ++ c2 ∧ Enc.rep w lo x c1 ∧ Row w lo l c2
variable {w w' : World} {lo lo' : Nat} {l l' : List α} {cs cs' : List Value} {A : Option Addr} {c : Nat} {e : TypeId}

theorem Row.len (h : Row w lo l cs) : cs.length = l.length * Enc.sz α := by
  induction l generalizing cs with
  | nil => simp [show cs = [] from h]
  | cons x l ih =>
    obtain ⟨c1, c2, rfl, h1, h2⟩ := h
    rw [List.length_append, Enc.len h1, ih h2, List.length_cons, Nat.add_mul, Nat.one_mul, Nat.add_comm]

theorem Row.one (h : Row w lo l cs) : ∀ u ∈ cs, u.oneCell' = true := by
  induction l generalizing cs with
  | nil => simp [show cs = [] from h]
  | cons x l ih =>
    obtain ⟨c1, c2, rfl, h1, h2⟩ := h
    intro u hu
    rcases List.mem_append.1 hu with hu | hu
    · exact Enc.one h1 u hu
    · exact ih h2 u hu

theorem Row.keep (h : Row w lo l cs) (hk : ∀ p : Addr, lo ≤ p.block → p.block < w.heap.size → w'.cell? p = w.cell? p) : Row w' lo l cs := by
  induction l generalizing cs with
  | nil => exact h
  | cons x l ih =>
    obtain ⟨c1, c2, rfl, h1, h2⟩ := h
    exact ⟨c1, c2, rfl, Enc.keep h1 hk, ih h2⟩

theorem Row.mono (h : Row w lo l cs) (hl : lo' ≤ lo) : Row w lo' l cs := by
  induction l generalizing cs with
  | nil => exact h
  | cons x l ih =>
    obtain ⟨c1, c2, rfl, h1, h2⟩ := h
    exact ⟨c1, c2, rfl, Enc.mono h1 hl, ih h2⟩

theorem Row.append (h : Row w lo l cs) (h' : Row w lo l' cs') : Row w lo (l ++ l') (cs ++ cs') := by
  induction l generalizing cs with
  | nil => simpa [show cs = [] from h] using h'
  | cons x l ih =>
    obtain ⟨c1, c2, rfl, h1, h2⟩ := h
    exact ⟨c1, c2 ++ cs', by simp, h1, ih h2⟩

theorem Row.single {x : α} (h : Enc.rep w lo x cs) : Row w lo [x] cs := ⟨cs, [], by simp, h, rfl⟩

theorem Row.at_ (h : Row w lo l cs) {k : Nat} (hk : k < l.length) : ∃ c1, Enc.rep w lo l[k] c1 ∧ ∀ j u, c1[j]? = some u → cs[k * Enc.sz α + j]? = some u := by
  induction l generalizing cs k with
  | nil => simp at hk
  | cons x l ih =>
    obtain ⟨c1, c2, rfl, h1, h2⟩ := h
    cases k with
    | zero => exact ⟨c1, h1, fun j u hu => by
        rw [Nat.zero_mul, Nat.zero_add, List.getElem?_append_left (List.getElem?_eq_some_iff.1 hu).1]; exact hu⟩
    | succ k =>
      obtain ⟨c3, h3, h4⟩ := ih h2 (k := k) (by simpa using hk)
      refine ⟨c3, h3, fun j u hu => ?_⟩
      have := Enc.len h1
      rw [List.getElem?_append_right (by rw [this, Nat.add_mul]; omega), ← h4 j u hu]
      congr 1
      rw [this, Nat.add_mul]; omega

theorem Row.take (h : Row w lo l cs) (k : Nat) : Row w lo (l.take k) (cs.take (k * Enc.sz α)) := by
  induction l generalizing cs k with
  | nil => simp [show cs = [] from h]; rfl
  | cons x l ih =>
    obtain ⟨c1, c2, rfl, h1, h2⟩ := h
    cases k with
    | zero => simp; rfl
    | succ k =>
      have := Enc.len h1
      refine ⟨c1, c2.take (k * Enc.sz α), ?_, h1, ih h2 k⟩
      rw [List.take_append, List.take_of_length_le (by rw [this, Nat.add_mul]; omega)]
      congr 2
      rw [this, Nat.add_mul]; omega

theorem Row.drop (h : Row w lo l cs) (k : Nat) : Row w lo (l.drop k) (cs.drop (k * Enc.sz α)) := by
  induction l generalizing cs k with
  | nil => simp [show cs = [] from h]; rfl
  | cons x l ih =>
    obtain ⟨c1, c2, rfl, h1, h2⟩ := h
    cases k with
    | zero => simpa using ⟨c1, c2, rfl, h1, h2⟩
    | succ k =>
      have := Enc.len h1
      have e : (k + 1) * Enc.sz α - c1.length = k * Enc.sz α := by rw [this, Nat.add_mul]; omega
      have e1 : c1.drop ((k + 1) * Enc.sz α) = [] := List.drop_of_length_le (by rw [this, Nat.add_mul]; omega)
      rw [List.drop_append, e, e1, List.nil_append, List.drop_succ_cons]
      exact ih h2 k

/-- cells that lie one behind the other -/
def Lies (w : World) (lo : Nat) (A : Option Addr) (cs : List Value) : Prop :=
  cs ≠ [] → ∃ ad, A = some ad ∧ lo ≤ ad.block ∧ ∀ j u, cs[j]? = some u → w.cell? (ad.add j) = some u
/-- a slice reads as a list (its blocks from lo on) -/
def Sl (w : World) (lo : Nat) (A : Option Addr) (l : List α) : Prop := l.length ≤ maxLen ∧ ∃ cs, Row w lo l cs ∧ Lies w lo A cs
/-- a slice that is one's own: it may be written and appended to -/
def Own (w : World) (lo : Nat) (e : TypeId) (A : Option Addr) (c : Nat) (l : List α) : Prop :=
  l.length ≤ maxLen ∧ ∃ cs, Row w lo l cs ∧ w.ownsRow lo e (Enc.sz α) (.slice A l.length c) l.length cs

theorem cell_lt {w : World} {p : Addr} {u : Value} (h : w.cell? p = some u) : p.block < w.heap.size := World.block_lt_of_cell? w p h

theorem Sl.keep (h : Sl w lo A l) (hk : ∀ p : Addr, lo ≤ p.block → p.block < w.heap.size → w'.cell? p = w.cell? p) : Sl w' lo A l := by
  obtain ⟨hm, cs, hr, hl⟩ := h
  refine ⟨hm, cs, hr.keep hk, fun hne => ?_⟩
  obtain ⟨ad, e, hb, hc⟩ := hl hne
  exact ⟨ad, e, hb, fun j u hu => (hk _ (by rw [block_of_add]; exact hb) (cell_lt (hc j u hu))).trans (hc j u hu)⟩

theorem Sl.gr {r : Option Nat} (h : Sl w lo A l) (hg : w.grownBy w' r) (hr : ∀ g, r = some g → g < lo) : Sl w' lo A l :=
  h.keep fun p hp hs => World.cell?_of_block (hg.block p.block hs (fun e => by have := hr _ e.symm; omega))

theorem Sl.pure (h : Sl w lo A l) (hg : w.grownBy w' none) : Sl w' lo A l := h.gr hg (fun g e => by cases e)

theorem Sl.mono (h : Sl w lo A l) (hl : lo' ≤ lo) : Sl w lo' A l := by
  obtain ⟨hm, cs, hr, hc⟩ := h
  exact ⟨hm, cs, hr.mono hl, fun hne => let ⟨ad, e, hb, h⟩ := hc hne; ⟨ad, e, by omega, h⟩⟩

theorem Sl.nil : Sl w lo A ([] : List α) := ⟨by simp [maxLen], [], rfl, fun h => absurd rfl h⟩

theorem cell_plain {w : World} {p : Addr} {u : Value} (h : w.cell? p = some u) : p = ⟨p.block, p.off, none⟩ := by
  unfold World.cell? at h
  split at h
  · split at h
    · cases h
    · rename_i hs
      obtain ⟨b, o, s⟩ := p
      cases s <;> simp_all
  · cases h

theorem Sl.at_ (h : Sl w lo A l) (hs : 0 < Enc.sz α) {k : Nat} (hk : k < l.length) : ∃ g o c1, A = some ⟨g, o, none⟩ ∧ lo ≤ g ∧ g < w.heap.size ∧ Enc.rep w lo l[k] c1 ∧ ∀ j u, c1[j]? = some u → w.cell? ⟨g, o + k * Enc.sz α + j, none⟩ = some u := by
  obtain ⟨hm, cs, hr, hc⟩ := h
  obtain ⟨c1, h1, h2⟩ := hr.at_ hk
  have h0 : 0 < c1.length := by rw [Enc.len h1]; exact hs
  have hx := h2 0 _ (List.getElem?_eq_getElem h0)
  have hne : cs ≠ [] := by rintro rfl; simp at hx
  obtain ⟨ad, e, hb, h3⟩ := hc hne
  have h4 := cell_lt (h3 _ _ hx)
  rw [block_of_add] at h4
  have hp := cell_plain (h3 0 _ (List.getElem?_eq_getElem (List.length_pos_iff.2 hne)))
  have e0 : ad.add 0 = ad := rfl
  rw [e0] at hp
  obtain ⟨g, o, s⟩ := ad
  simp only [Addr.mk.injEq, true_and] at hp
  subst hp
  refine ⟨g, o, c1, e, hb, h4, h1, fun j u hu => ?_⟩
  have := h3 _ u (h2 j u hu)
  rwa [Addr.add_lit, ← Nat.add_assoc] at this

theorem Own.sl (h : Own w lo e A c l) : Sl w lo A l := by
  obtain ⟨hm, cs, hr, ho⟩ := h
  refine ⟨hm, cs, hr, fun hne => ?_⟩
  rcases ho.2 with ⟨h1, h2⟩ | ⟨g, cap, cur, hv, hb, hrest⟩
  · exact absurd (List.eq_nil_of_length_eq_zero (by have := ho.1; rw [h2, Nat.zero_mul] at this; exact this)) hne
  · injection hv with hA _ _
    subst hA
    exact ⟨_, rfl, hb, ho.cells (g := g) rfl⟩

theorem Own.keep (h : Own w lo e A c l) {r : Option Nat} (hg : w.grownBy w' r) (hr : ∀ g, r = some g → g < lo) : Own w' lo e A c l := by
  obtain ⟨hm, cs, hrow, ho⟩ := h
  refine ⟨hm, cs, hrow.keep fun p hp hs => World.cell?_of_block (hg.block p.block hs (fun e => by have := hr _ e.symm; omega)), ho.kept hg ?_⟩
  rcases hb : Value.ownBlock (.slice A l.length c) with _ | g
  · exact .inl rfl
  · refine .inr fun e => ?_
    have h1 := ho.lt g hb
    have h2 := hr g e.symm
    omega

theorem Own.pure (h : Own w lo e A c l) (hg : w.grownBy w' none) : Own w' lo e A c l := h.keep hg (fun g e => by cases e)
end

/-! ## the stream: block b holds the slice L and the count; L lies below b -/

def Strm (w : World) (b : Nat) (N : Int) : Prop := ∃ (A : Option Addr) (n c : Nat) (k : Int),
  w.cell? ⟨b, 0, none⟩ = some (.slice A n c) ∧ w.cell? ⟨b, 1, none⟩ = some (.int .i64 k) ∧ w.frozen? ⟨b, 1, none⟩ = false ∧ 0 ≤ k ∧ k ≤ N ∧ n ≤ maxLen ∧
  (∀ i, i < n → ∃ ad z, A = some ad ∧ ad.block < b ∧ w.cell? (ad.add i) = some (.int .i64 z))

theorem Strm.lt {w : World} {b : Nat} {N : Int} (h : Strm w b N) : b < w.heap.size := by
  obtain ⟨A, n, c, k, h0, _⟩ := h
  exact cell_lt h0

theorem Strm.gr {w w' : World} {b : Nat} {N : Int} {r : Option Nat} (h : Strm w b N) (hg : w.grownBy w' r) (hr : ∀ g, r = some g → b < g) : Strm w' b N := by
  have hlt := h.lt
  obtain ⟨A, n, c, k, h0, h1, hf, hk0, hkN, hn, hel⟩ := h
  have hne : ∀ x, x ≤ b → some x ≠ r := fun x hx e => by have := hr x e.symm; omega
  refine ⟨A, n, c, k, hg.cell h0 (hne _ (Nat.le_refl _)), hg.cell h1 (hne _ (Nat.le_refl _)), ?_, hk0, hkN, hn, fun i hi => ?_⟩
  · rw [World.frozen?_of_block (hg.block b hlt (hne _ (Nat.le_refl _)))]; exact hf
  · obtain ⟨ad, z, e, hb, hc⟩ := hel i hi
    exact ⟨ad, z, e, hb, hg.cell hc (by rw [block_of_add]; exact hne _ (Nat.le_of_lt hb))⟩

theorem Strm.pure {w w' : World} {b : Nat} {N : Int} (h : Strm w b N) (hg : w.grownBy w' none) : Strm w' b N := h.gr hg (fun g e => by cases e)

theorem Strm.mono {w : World} {b : Nat} {N N' : Int} (h : Strm w b N) (hN : N ≤ N') : Strm w b N' := by
  obtain ⟨A, n, c, k, h0, h1, hf, hk0, hkN, hn, hel⟩ := h
  exact ⟨A, n, c, k, h0, h1, hf, hk0, by omega, hn, hel⟩

theorem Strm.set_ {w : World} {b : Nat} {N : Int} {k : Int} (h : Strm w b N) (h0 : 0 ≤ k) (hk : k ≤ N + 1) : Strm (w.setCell ⟨b, 1, none⟩ (.int .i64 k)) b (N + 1) := by
  obtain ⟨A, n, c, k', c0, c1, hf, hk0, hkN, hn, hel⟩ := h
  refine ⟨A, n, c, k, ?_, ?_, ?_, h0, hk, hn, fun i hi => ?_⟩
  · exact (World.cell?_setCell_other w ⟨b, 1, none⟩ ⟨b, 0, none⟩ _ (by simp)).trans c0
  · exact World.cell?_setCell_same w _ _ c1
  · rw [World.frozen?_setCell]; exact hf
  · obtain ⟨ad, z, e, hb, hc⟩ := hel i hi
    exact ⟨ad, z, e, hb, (World.cell?_setCell_other w ⟨b, 1, none⟩ (ad.add i) _ (fun e => by
      have := congrArg Addr.block e; rw [block_of_add] at this; simp at this; omega)).trans hc⟩

/-- what a step of the stream leaves -/
def SOut (b : Nat) (N : Int) (w w' : World) : Prop := w.grownBy w' (some b) ∧ Strm w' b N

theorem sl_lit {α : Type} [Enc α] (w : World) (lo : Nat) (cs : List Value) (t : TypeId) (l : List α) (hlo : lo ≤ w.heap.size) (hm : l.length ≤ maxLen) (hr : Row (w.alloc (.cells cs.toArray t)) lo l cs) :
    Sl (w.alloc (.cells cs.toArray t)) lo (some ⟨w.heap.size, 0, none⟩) l := by
  refine ⟨hm, cs, hr, fun _ => ⟨_, rfl, hlo, fun j u hu => ?_⟩⟩
  rw [Addr.add_lit, cell_of_row _ w.heap.size _ cs.toArray t (0, 0) (heap_alloc_new w _)]
  simpa using hu

theorem row_ints (w : World) (lo : Nat) (l : List Int) : Row w lo l (l.map (Value.int .i64)) := by
  induction l with
  | nil => rfl
  | cons x l ih => exact ⟨[.int .i64 x], _, rfl, rfl, ih⟩

theorem sl_ints (w : World) (lo : Nat) (t : TypeId) (l : List Int) (hlo : lo ≤ w.heap.size) (hm : l.length ≤ maxLen) :
    Sl (w.alloc (.cells (l.map (Value.int .i64)).toArray t)) lo (some ⟨w.heap.size, 0, none⟩) l := sl_lit w lo _ t l hlo hm (row_ints _ lo l)

/-! ## appending to a slice of one's own -/
/-- only blocks from lo on have turned -/
def Upd (lo : Nat) (w w' : World) : Prop := ∃ r, w.grownBy w' r ∧ ∀ g, r = some g → lo ≤ g

theorem Upd.gr {lo : Nat} {w0 w w' : World} {r : Option Nat} (h : Upd lo w w') (h0 : w0.heap.size ≤ lo) (hg : w0.grownBy w r) : w0.grownBy w' r := by
  obtain ⟨q, hq, hl⟩ := h
  exact gr_row hg hq (fun g e => Nat.le_trans h0 (hl g e))

theorem Upd.strm {lo b : Nat} {w w' : World} {N : Int} (h : Upd lo w w') (hb : b < lo) (hs : Strm w b N) : Strm w' b N := by
  obtain ⟨q, hq, hl⟩ := h
  exact hs.gr hq (fun g e => Nat.lt_of_lt_of_le hb (hl g e))

theorem Upd.size {lo : Nat} {w w' : World} (h : Upd lo w w') : w.heap.size ≤ w'.heap.size := by
  obtain ⟨q, hq, _⟩ := h
  exact hq.size

theorem Upd.sl {α : Type} [Enc α] {lo lo2 : Nat} {w0 w w' : World} {A : Option Addr} {l : List α} {r : Option Nat} (h : Upd lo w w') (hs : Sl w0 lo2 A l) (h0 : w0.heap.size ≤ lo) (hg : w0.grownBy w r) (hr : ∀ g, r = some g → g < lo2) : Sl w' lo2 A l :=
  hs.gr (h.gr h0 hg) hr

/-- own slices of one-level elements (ints, structs of these): appending leaves the elements -/
class Flat (α : Type) [Enc α] : Prop where
  flat : ∀ {w w' : World} {lo lo' : Nat} {x : α} {cs : List Value}, Enc.rep w lo x cs → Enc.rep w' lo' x cs
  pos : 0 < Enc.sz α

theorem Row.flat {α : Type} [Enc α] [Flat α] {w w' : World} {lo lo' : Nat} {l : List α} {cs : List Value} (h : Row w lo l cs) : Row w' lo' l cs := by
  induction l generalizing cs with
  | nil => exact h
  | cons x l ih =>
    obtain ⟨c1, c2, rfl, h1, h2⟩ := h
    exact ⟨c1, c2, rfl, Flat.flat h1, ih h2⟩

instance : Flat Int := ⟨fun h => h, by decide⟩

theorem Own.nil {α : Type} [Enc α] (w : World) (lo : Nat) (e : TypeId) : Own w lo e none 0 ([] : List α) :=
  ⟨by simp [maxLen], [], rfl, World.ownsRow_nil w lo e _⟩

theorem Own.shape {α : Type} [Enc α] {w : World} {lo : Nat} {e : TypeId} {A : Option Addr} {c : Nat} {l : List α} (h : Own w lo e A c l) (hl : 0 < l.length) : ∃ g, A = some ⟨g, 0, none⟩ ∧ lo ≤ g ∧ g < w.heap.size := by
  obtain ⟨_, cs, _, ho⟩ := h
  rcases ho.2 with ⟨h1, h2⟩ | ⟨g, cap, cur, hv, hb, hh, _⟩
  · omega
  · injection hv with hA _ _
    exact ⟨g, hA, hb, (Array.getElem?_eq_some_iff.1 hh).1⟩

section
variable {P : Program} {α : Type} [Enc α] [Flat α]

theorem run_push (w : World) (lo : Nat) (t ty e : TypeId) (i : TypeInfo) (z : Value) (bytes : Nat) (ht : P.underlying t = some (.slice e)) (hi : P.info? e = some i) (hz : i.zero = some z)
    (hsize : i.size = Enc.sz α) (hby : i.bytes = bytes) (hzs : z.cells.size = Enc.sz α)
    (A : Option Addr) (c : Nat) (l : List α) (hown : Own w lo e A c l) (lo2 : Nat) (ad : Addr) (cc : Nat) (l2 : List α) (hsl : Sl w lo2 (some ad) l2)
    (hbytes : (l.length + l2.length) * bytes ≤ 140737488355328) (h63 : l.length + l2.length ≤ maxLen) (hbase : lo ≤ w.heap.size) :
    ∃ A' c' w', (Builtin.append_ #[t, t] ty #[.slice A l.length c, .slice (some ad) l2.length cc]).run P w = .ok (.slice A' (l ++ l2).length c') w' ∧ Own w' lo e A' c' (l ++ l2) ∧ Upd lo w w' := by
  obtain ⟨hm, cs, hr, ho⟩ := hown
  obtain ⟨hm2, cs2, hr2, hl2⟩ := hsl
  have hlen2 : cs2.length = l2.length * Enc.sz α := hr2.len
  have hnews : ∀ j u, cs2[j]? = some u → w.cell? (ad.add j) = some u := fun j u hu => by
    obtain ⟨ad', h1, _, h3⟩ := hl2 (by rintro rfl; simp at hu)
    injection h1 with h1
    subst h1
    exact h3 j u hu
  obtain ⟨v', w', hrun, ho', hg, _⟩ := run_append_own (P := P) w lo t ty e i z (Enc.sz α) bytes ht hi hz hsize hby hzs Flat.pos _ _ cs ho ad l2.length cc cs2 hlen2 hnews hr2.one h63 hbytes hbase
  have hup : Upd lo w w' := ⟨_, hg, fun g hgg => (ho.lt g hgg).1⟩
  have hlen : (l ++ l2).length = l.length + l2.length := List.length_append
  rcases ho'.2 with ⟨rfl, h0⟩ | ⟨g, cap, cur, rfl, rest⟩
  · refine ⟨none, 0, w', ?_, ⟨by omega, cs ++ cs2, (hr.flat).append (hr2.flat), ?_⟩, hup⟩
    · rw [hrun, hlen, h0]
    · rw [hlen, h0] at *
      exact ho'
  · refine ⟨some ⟨g, 0, none⟩, cap, w', ?_, ⟨by omega, cs ++ cs2, (hr.flat).append (hr2.flat), ?_⟩, hup⟩
    · rw [hrun, hlen]
    · rw [hlen]
      exact ho'

theorem wp_push {o : Oper} {a : Act} {K : Act → World → Prop} {Q : Exit → Act → World → Prop} (w : World) (s x : Operand) (t : TypeId)
    (ho : o.op = .call { callee := .builtin .append, args := #[s, x], argTypes := #[t, t] })
    (lo : Nat) (e : TypeId) (i : TypeInfo) (z : Value) (bytes : Nat) (ht : P.underlying t = some (.slice e)) (hi : P.info? e = some i) (hz : i.zero = some z)
    (hsize : i.size = Enc.sz α) (hby : i.bytes = bytes) (hzs : z.cells.size = Enc.sz α)
    (A : Option Addr) (n c : Nat) (l : List α) (hs : a.eval s = .slice A n c) (hn : n = l.length) (hown : Own w lo e A c l)
    (lo2 : Nat) (ad : Addr) (m cc : Nat) (l2 : List α) (hx : a.eval x = .slice (some ad) m cc) (hm : m = l2.length) (hsl : Sl w lo2 (some ad) l2)
    (hbytes : (l.length + l2.length) * bytes ≤ 140737488355328) (h63 : l.length + l2.length ≤ maxLen) (hbase : lo ≤ w.heap.size)
    (h : ∀ A' c' w', Own w' lo e A' c' (l ++ l2) → Upd lo w w' → K (a.put o.dst (.slice A' (l ++ l2).length c')) w') : o.wp P a w K Q := by
  subst hn
  subst hm
  obtain ⟨A', c', w', hrun, h2, h3⟩ := run_push (P := P) w lo t o.type e i z bytes ht hi hz hsize hby hzs A c l hown lo2 ad cc l2 hsl hbytes h63 hbase
  unfold Oper.wp execOp
  simp only [ho, resolve, invoke, builtin, Sem.run_bind, Sem.run_pure, Result.andThen_ok, List.map_toArray, List.map_cons, List.map_nil, hs, hx, hrun]
  exact h A' c' w' h2 h3

theorem wpList_push {ops : Array Oper} {rest : List Oper} {o : Oper} {a : Act} {Q : Exit → Act → World → Prop} (w : World) (hgd : o.guard = none) (s x : Operand) (t : TypeId)
    (ho : o.op = .call { callee := .builtin .append, args := #[s, x], argTypes := #[t, t] })
    (lo : Nat) (e : TypeId) (i : TypeInfo) (z : Value) (bytes : Nat) (ht : P.underlying t = some (.slice e)) (hi : P.info? e = some i) (hz : i.zero = some z)
    (hsize : i.size = Enc.sz α) (hby : i.bytes = bytes) (hzs : z.cells.size = Enc.sz α)
    (A : Option Addr) (n c : Nat) (l : List α) (hs : a.eval s = .slice A n c) (hn : n = l.length) (hown : Own w lo e A c l)
    (lo2 : Nat) (ad : Addr) (m cc : Nat) (l2 : List α) (hx : a.eval x = .slice (some ad) m cc) (hm : m = l2.length) (hsl : Sl w lo2 (some ad) l2)
    (hbytes : (l.length + l2.length) * bytes ≤ 140737488355328) (h63 : l.length + l2.length ≤ maxLen) (hbase : lo ≤ w.heap.size)
    (h : ∀ A' c' w', Own w' lo e A' c' (l ++ l2) → Upd lo w w' → wpList P ops Q rest (a.put o.dst (.slice A' (l ++ l2).length c')) w') : wpList P ops Q (o :: rest) a w :=
  wpList_plain hgd fun _ hK => wp_push w s x t ho lo e i z bytes ht hi hz hsize hby hzs A n c l hs hn hown lo2 ad m cc l2 hx hm hsl hbytes h63 hbase fun A' c' w' h2 h3 => hK _ _ (h A' c' w' h2 h3)
end

/-! ## rows of ints -/

theorem row_ints_eq {w : World} {lo : Nat} {l : List Int} {cs : List Value} (h : Row w lo l cs) : cs = l.map (Value.int .i64) := by
  induction l generalizing cs with
  | nil => exact h
  | cons x l ih =>
    obtain ⟨c1, c2, rfl, rfl, h2⟩ := h
    rw [ih h2]; rfl

theorem Own.cell_int {w : World} {lo : Nat} {e : TypeId} {g c : Nat} {l : List Int} (h : Own w lo e (some ⟨g, 0, none⟩) c l) {j : Nat} (hj : j < l.length) : w.cell? ⟨g, j, none⟩ = some (.int .i64 l[j]) := by
  obtain ⟨_, cs, hr, ho⟩ := h
  rw [ho.cellAt j (by rw [show Enc.sz Int = 1 from rfl, Nat.mul_one]; exact hj), row_ints_eq hr]
  simp [hj]

theorem Own.frozen {α : Type} [Enc α] {w : World} {lo : Nat} {e : TypeId} {g c : Nat} {l : List α} (h : Own w lo e (some ⟨g, 0, none⟩) c l) (j : Nat) : w.frozen? ⟨g, j, none⟩ = false := by
  obtain ⟨_, cs, hr, ho⟩ := h
  exact ho.frozenAt j

theorem Own.set_int {w : World} {lo : Nat} {e : TypeId} {g c : Nat} {l : List Int} (h : Own w lo e (some ⟨g, 0, none⟩) c l) (j : Nat) (v : Int) : Own (w.setCell ⟨g, j, none⟩ (.int .i64 v)) lo e (some ⟨g, 0, none⟩) c (l.set j v) := by
  obtain ⟨hm, cs, hr, ho⟩ := h
  have e1 := row_ints_eq hr
  subst e1
  refine ⟨by rw [List.length_set]; exact hm, (l.set j v).map (Value.int .i64), row_ints _ _ _, ?_⟩
  have := (ho.stored j (.int .i64 v)).1
  rw [List.length_set, List.map_set]
  exact this

theorem sl_one {α : Type} [Enc α] [Flat α] (w : World) (lo : Nat) (cs : List Value) (t : TypeId) (x : α) (hlo : lo ≤ w.heap.size) (hr : Enc.rep w lo x cs) :
    Sl (w.alloc (.cells cs.toArray t)) lo (some ⟨w.heap.size, 0, none⟩) [x] :=
  sl_lit w lo cs t [x] hlo (by simp [maxLen]) (Row.single (Flat.flat hr))

theorem sl_intsAt (w : World) (lo : Nat) (t : TypeId) (l : List Int) (g : Nat) (hg : g = w.heap.size) (hlo : lo ≤ w.heap.size) (hm : l.length ≤ maxLen) :
    Sl (w.alloc (.cells (l.map (Value.int .i64)).toArray t)) lo (some ⟨g, 0, none⟩) l := by
  subst hg
  exact sl_lit w lo _ t l hlo hm (row_ints _ lo l)

theorem Own.cap {α : Type} [Enc α] {w : World} {lo : Nat} {e : TypeId} {A : Option Addr} {c : Nat} {l : List α} (h : Own w lo e A c l) : l.length ≤ c := by
  obtain ⟨_, cs, _, ho⟩ := h
  rcases ho.2 with ⟨h1, h2⟩ | ⟨g, cap, cur, hv, _, _, hn, _⟩
  · omega
  · injection hv with _ _ hc
    omega

theorem Sl.take {α : Type} [Enc α] {w : World} {lo : Nat} {A : Option Addr} {l : List α} (h : Sl w lo A l) (k : Nat) : Sl w lo A (l.take k) := by
  obtain ⟨hm, cs, hr, hl⟩ := h
  refine ⟨by rw [List.length_take]; omega, _, hr.take k, fun hne => ?_⟩
  obtain ⟨ad, e, hb, hc⟩ := hl (by rintro rfl; simp at hne)
  refine ⟨ad, e, hb, fun j u hu => hc j u ?_⟩
  rw [List.getElem?_take] at hu
  split at hu
  · exact hu
  · cases hu

theorem Row.set_ {α : Type} [Enc α] {w : World} {lo : Nat} {l : List α} {cs : List Value} (h : Row w lo l cs) {i j : Nat} {x : α} {u : Value} (hi : i < l.length) (hj : j < Enc.sz α)
    (hx : ∀ c1, Enc.rep w lo l[i] c1 → Enc.rep w lo x (c1.set j u)) : Row w lo (l.set i x) (cs.set (i * Enc.sz α + j) u) := by
  induction l generalizing cs i with
  | nil => simp at hi
  | cons y l ih =>
    obtain ⟨c1, c2, rfl, h1, h2⟩ := h
    have hlen := Enc.len h1
    cases i with
    | zero =>
      refine ⟨c1.set j u, c2, ?_, hx _ h1, h2⟩
      rw [Nat.zero_mul, Nat.zero_add, List.set_append_left _ _ (by omega)]
    | succ i =>
      refine ⟨c1, c2.set (i * Enc.sz α + j) u, ?_, h1, ih h2 (by simpa using hi) hx⟩
      rw [List.set_append_right _ _ (by rw [hlen, Nat.add_mul]; omega)]
      congr 2
      rw [hlen, Nat.add_mul]; omega

theorem Own.put {α : Type} [Enc α] [Flat α] {w : World} {lo : Nat} {e : TypeId} {g c : Nat} {l : List α} (h : Own w lo e (some ⟨g, 0, none⟩) c l) {i j : Nat} {x : α} {u : Value} (hi : i < l.length) (hj : j < Enc.sz α)
    (hx : ∀ c1, Enc.rep w lo l[i] c1 → Enc.rep w lo x (c1.set j u)) : Own (w.setCell ⟨g, i * Enc.sz α + j, none⟩ u) lo e (some ⟨g, 0, none⟩) c (l.set i x) := by
  obtain ⟨hm, cs, hr, ho⟩ := h
  refine ⟨by rw [List.length_set]; exact hm, _, (hr.set_ hi hj hx).flat, ?_⟩
  have := (ho.stored (i * Enc.sz α + j) u).1
  rw [List.length_set]
  exact this

theorem Own.lower {α : Type} [Enc α] {w : World} {lo lo' : Nat} {e : TypeId} {A : Option Addr} {c : Nat} {l : List α} (h : Own w lo e A c l) (hl : lo' ≤ lo) : Own w lo' e A c l := by
  obtain ⟨hm, cs, hr, h1, h2⟩ := h
  refine ⟨hm, cs, hr.mono hl, h1, ?_⟩
  rcases h2 with h2 | ⟨g, cap, cur, hv, hb, rest⟩
  · exact .inl h2
  · exact .inr ⟨g, cap, cur, hv, by omega, rest⟩

theorem sl_oneAt {α : Type} [Enc α] [Flat α] (w : World) (lo : Nat) (cs : List Value) (t : TypeId) (x : α) (g : Nat) (hg : g = w.heap.size) (hlo : lo ≤ w.heap.size) (hr : Enc.rep w lo x cs) :
    Sl (w.alloc (.cells cs.toArray t)) lo (some ⟨g, 0, none⟩) [x] := by
  subst hg
  exact sl_one w lo cs t x hlo hr

theorem SOut.lt {b : Nat} {N : Int} {w w' : World} (h : SOut b N w w') : b < w'.heap.size := h.2.lt

theorem SOut.refl {b : Nat} {N : Int} {w : World} (h : Strm w b N) : SOut b N w w := ⟨World.grownBy.refl _ _, h⟩

theorem SOut.trans {b : Nat} {N N' : Int} {w w1 w2 : World} (h : SOut b N w w1) (k : SOut b N' w1 w2) : SOut b N' w w2 := ⟨gr_trans h.1 k.1, k.2⟩

theorem SOut.pure {b : Nat} {N : Int} {w w1 w2 : World} (h : SOut b N w w1) (k : w1.grownBy w2 none) : SOut b N w w2 := ⟨gr_step h.1 k, h.2.pure k⟩

theorem SOut.mono {b : Nat} {N N' : Int} {w w1 : World} (h : SOut b N w w1) (k : N ≤ N') : SOut b N' w w1 := ⟨h.1, h.2.mono k⟩

theorem SOut.upd {b lo : Nat} {N : Int} {w w1 w2 : World} (h : SOut b N w w1) (hw : w.heap.size ≤ lo) (hb : b < lo) (k : Upd lo w1 w2) : SOut b N w w2 := ⟨k.gr hw h.1, k.strm hb h.2⟩

theorem Own.s {α : Type} [Enc α] {w w' : World} {lo b : Nat} {N : Int} {e : TypeId} {A : Option Addr} {c : Nat} {l : List α} (h : Own w lo e A c l) (k : SOut b N w w') (hb : b < lo) : Own w' lo e A c l :=
  h.keep k.1 (fun g e => by cases e; exact hb)

theorem Sl.s {α : Type} [Enc α] {w w' : World} {lo b : Nat} {N : Int} {A : Option Addr} {l : List α} (h : Sl w lo A l) (k : SOut b N w w') (hb : b < lo) : Sl w' lo A l :=
  h.gr k.1 (fun g e => by cases e; exact hb)

theorem strm_new {w : World} {A : Option Addr} {n c : Nat} {l : List Int} (t : TypeId) (hl : Sl w 0 A l) (hn : l.length = n) : Strm (w.alloc (.cells #[.slice A n c, .int .i64 0] t)) w.heap.size 0 := by
  subst hn
  have hm := hl.1
  refine ⟨A, l.length, c, 0, ?_, ?_, ?_, by omega, by omega, hm, fun i hi => ?_⟩
  · rw [cell_of_row _ w.heap.size 0 _ t (0, 0) (heap_alloc_new w _)]; rfl
  · rw [cell_of_row _ w.heap.size 1 _ t (0, 0) (heap_alloc_new w _)]; rfl
  · exact frozen_of_row _ w.heap.size 1 _ t (heap_alloc_new w _)
  · obtain ⟨g, o, c1, e, _, hb, rfl, hc⟩ := hl.at_ (by decide) hi
    have := hc 0 _ rfl
    rw [show Enc.sz Int = 1 from rfl, Nat.mul_one] at this
    refine ⟨⟨g, o, none⟩, l[i], e, hb, ?_⟩
    rw [Addr.add_lit]
    exact (World.grownBy_alloc w _ none).cell this (by simp)

end Go.Bl
namespace Go

theorem World.grownBy.t {w w1 w2 : World} {r : Option Nat} (h : w.grownBy w1 r) (k : w1.grownBy w2 r) : w.grownBy w2 r := Bl.gr_trans h k

theorem World.grownBy.a {w w1 : World} {r : Option Nat} (h : w.grownBy w1 r) (o : Obj) : w.grownBy (w1.alloc o) r := Bl.gr_alloc h o

theorem World.grownBy.k {w w1 : World} (h : w.grownBy w1 none) {p : Addr} {v : Value} (hc : w.cell? p = some v) : w1.cell? p = some v := h.cell hc (by simp)

theorem World.grownBy.f {w w1 : World} (h : w.grownBy w1 none) {p : Addr} {u : Value} (hc : w.cell? p = some u) {b : Bool} (hf : w.frozen? p = b) : w1.frozen? p = b := by
  rw [World.frozen?_of_block (h.block _ (World.block_lt_of_cell? w p hc) (by simp))]; exact hf

end Go
namespace Go.Bl

theorem sl_of_ints {w : World} {x : Addr} {zs : List Int} {n : Nat} (hn : n ≤ zs.length) (hm : zs.length ≤ maxLen) (hc : ∀ i, i < zs.length → w.cell? (x.add i) = some (.int .i64 (zs.getD i 0))) : Sl w 0 (some x) (zs.take n) := by
  refine ⟨by rw [List.length_take]; omega, _, row_ints w 0 _, fun _ => ⟨x, rfl, Nat.zero_le _, fun j u hu => ?_⟩⟩
  rw [List.getElem?_map, List.getElem?_take] at hu
  split at hu
  · rename_i hj
    have hj2 : j < zs.length := by omega
    rw [List.getElem?_eq_getElem hj2] at hu
    simp only [Option.map_some, Option.some.injEq] at hu
    subst hu
    rw [hc j hj2]
    simp [List.getD, hj2]
  · simp at hu

theorem Own.empty {α : Type} [Enc α] (w : World) (lo : Nat) (e : TypeId) (hlo : lo ≤ w.heap.size) : Own (w.alloc (.cells #[] e)) lo e (some ⟨w.heap.size, 0, none⟩) 0 ([] : List α) :=
  ⟨by simp [maxLen], [], rfl, by simp, .inr ⟨w.heap.size, 0, #[], rfl, hlo, heap_alloc_new w _, Nat.le_refl _, by simp [maxLen], by simp, by simp⟩⟩

theorem Upd.pure {lo : Nat} {w w1 w2 : World} {r : Option Nat} (h : Upd lo w1 w2) (h0 : w.heap.size ≤ lo) (hg : w.grownBy w1 r) : w.grownBy w2 r := h.gr h0 hg

end Go.Bl

namespace Go.Bl
open Go.RowKit

/-! ## beads -/

structure Bead where
  long : Int
  wide : Int
  high : Int
deriving DecidableEq, Inhabited

instance : Enc Bead where
  sz := 3
  rep := fun _ _ x cs => cs = [.int .i64 x.long, .int .i64 x.wide, .int .i64 x.high]
  len := by rintro w lo x cs rfl; rfl
  one := by rintro w lo x cs rfl u hu; simp at hu; rcases hu with rfl | rfl | rfl <;> rfl
  keep := fun h _ => h
  mono := fun h _ => h

instance : Flat Bead := ⟨fun h => h, by decide⟩

def outB (n a b : Int) : Bool := decide (n < a) || decide (b < n)

def inB (n a b : Int) : Bool := decide (a ≤ n) && decide (n ≤ b)

def spanF (n a b : Int) : Int := if outB n a b then 1 else 0

theorem inB_of {n a b : Int} (h : a ≤ n) (h' : n ≤ b) : inB n a b = true := by simp [inB, h, h']

theorem inB_lo {n a b : Int} (h : ¬ a ≤ n) : inB n a b = false := by unfold inB; rw [decide_eq_false h]; rfl

theorem inB_hi {n a b : Int} (h : ¬ n ≤ b) : inB n a b = false := by unfold inB; rw [decide_eq_false h, Bool.and_false]

theorem inB_not (n a b : Int) : (!inB n a b) = outB n a b := by
  unfold inB outB
  by_cases h1 : n < a <;> by_cases h2 : b < n <;> simp [h1, h2] <;> omega

theorem spanF_in {n a b : Int} (h : inB n a b = true) : spanF n a b = 0 := by
  unfold spanF; rw [← inB_not, h]; rfl

theorem spanF_out {n a b : Int} (h : inB n a b = false) : spanF n a b = 1 := by
  unfold spanF; rw [← inB_not, h]; rfl

def okBead (x : Bead) : Bool := !(outB x.long 0 10000000 || outB x.wide 1 5000 || outB x.high 1 5000)

def checkBeads (l : List Bead) : Int := if 5000 < l.length then 2 else if l.all okBead then 0 else 1

/-- the volume of a bead, wrapped and whole -/
def bv (x : Bead) : Int := wrap64 (wrap64 (x.long * x.wide) * x.high)

def bw (x : Bead) : Int := x.long * x.wide * x.high

def volW (l : List Bead) : Int := l.foldl (fun n x => wrap64 (n + bv x)) 0

def vol (l : List Bead) : Int := l.foldl (fun n x => n + bw x) 0

theorem volW_snoc (l : List Bead) (x : Bead) : volW (l ++ [x]) = wrap64 (volW l + bv x) := by unfold volW; rw [List.foldl_append]; rfl

theorem take_snoc {α : Type} {l : List α} {k : Nat} (h : k < l.length) : l.take (k + 1) = l.take k ++ [l[k]] := by
  rw [List.take_succ_eq_append_getElem h]

/-- the errors of beads and areas -/
def orS (a b : Int) : Int := if a ≠ 0 then a else b

def areaFault (l : List Bead) (area : Int) : Int :=
  if checkBeads l ≠ 0 then checkBeads l else if outB area 1 100000000 then 1 else if 1000000000000000000 < volW l then 12 else 0

def fedFault (l : List Bead) : Int := if checkBeads l ≠ 0 then checkBeads l else if 1000000000000000000 < volW l then 12 else 0

def posOf (l : List Bead) (area : Int) (k : Nat) : List Int := (List.range k).map fun i => (2 * vol (l.take (i + 1)) + area) / (2 * area)

def positions (l : List Bead) (area : Int) : List Int := if areaFault l area ≠ 0 then [] else posOf l area l.length

structure Frac where
  num : Int
  den : Int
deriving DecidableEq, Inhabited

def gcdI (a b : Int) : Int := (Int.gcd a b : Int)

def lowest (num den : Int) : Frac := ⟨num / gcdI num den, den / gcdI num den⟩

def orL : List Int → Int
  | [] => 0
  | x :: r => if x ≠ 0 then x else orL r

theorem orL_drop {l : List Int} {k : Nat} (hk : k < l.length) : orL (l.drop k) = if l[k] ≠ 0 then l[k] else orL (l.drop (k + 1)) := by
  rw [List.drop_eq_getElem_cons hk]; rfl

def eqB {α : Type} [DecidableEq α] (a b : List α) : Bool := decide (a = b)

/-- the differences of a list that goes downwards from its end; i: those from i on are done -/
def diffFrom (p : List Int) (i : Nat) : List Int := (List.range p.length).map fun j => if i ≤ j ∧ 0 < j then wrap64 (p.getD j 0 - p.getD (j - 1) 0) else p.getD j 0

def amounts (l : List Bead) (area : Int) : List Int := diffFrom (positions l area) 1

/-- the last one before k -/
def lastI (p : List Int) (k : Nat) : Int := if k = 0 then 0 else p.getD (k - 1) 0

def volumeOf (l : List Bead) : Int := if fedFault l ≠ 0 then 0 else volW l

def needOf (l : List Bead) (area : Int) : Frac := if areaFault l area ≠ 0 then ⟨0, 0⟩ else lowest (volW l) area

def memB (l : List Int) (x : Int) : Bool := decide (x ∈ l)
/-- strictly upwards -/
def Up (l : List Int) : Prop := ∀ i j (hi : i < l.length) (hj : j < l.length), i < j → l[i] < l[j]

/-! ## retractions -/

def prevAt (l : List Int) (k : Nat) : Option Int := if k = 0 then none else l[k - 1]?

def leO : Option Int → Int → Bool
  | none, _ => false
  | some q, k => decide (k ≤ q)

def scanP (nb : Int) : Option Int → List Int → Int
  | _, [] => 0
  | p, k :: r => if outB k 0 (nb - 1) then 1 else if leO p k then 7 else scanP nb (some k) r

def backF (nb back : Int) (at_ : List Int) : Int := if outB back 1 5000 then 1 else if 5000 < at_.length then 2 else scanP nb none at_

def retrOne (am at_ : List Int) (back : Int) (i : Nat) : List Int := (if memB at_ i then [-back, back] else []) ++ [am.getD i 0]

def retrTo (am at_ : List Int) (back : Int) (k : Nat) : List Int := ((List.range k).map (retrOne am at_ back)).flatten

def retrFault (l : List Bead) (area back : Int) (at_ : List Int) : Int := orS (areaFault l area) (backF l.length back at_)

def retracted (l : List Bead) (area back : Int) (at_ : List Int) : List Int := if retrFault l area back at_ ≠ 0 then [] else retrTo (amounts l area) at_ back (amounts l area).length

/-! ## speeds, times, weights -/

def fastFault (l : List Bead) (fl : Int) : Int := orS (checkBeads l) (spanF fl 1 1000000000000)

def fastTo (l : List Bead) (fl : Int) : List Int := l.map fun x => fl / (x.wide * x.high)

def fastest (l : List Bead) (fl : Int) : List Int := if fastFault l fl ≠ 0 then [] else fastTo l fl

def okTime (t : Int) : Bool := !outB t 0 86400000

def timesF (times : List Int) (least : Int) : Int := if 5000 < times.length then 2 else if (times ++ [least]).all okTime then 0 else 1

def slowTo (times : List Int) (least : Int) : List Int := times.map fun t => max t least

def growTo (times : List Int) (least : Int) : Int := times.foldl (fun m t => m + (max t least - t)) 0

def slowed (times : List Int) (least : Int) : List Int := if timesF times least ≠ 0 then [] else slowTo times least

def grown (times : List Int) (least : Int) : Int := if timesF times least ≠ 0 then 0 else growTo times least

def weightF (l : List Bead) (d : Int) : Int := orS (fedFault l) (orS (spanF d 1 1000000) (if 1000000000000 < volW l then 12 else 0))

def weight (l : List Bead) (d : Int) : Frac := if weightF l d ≠ 0 then ⟨0, 0⟩ else lowest (volW l * d) 1000000000000

end Go.Bl

namespace Go.Bl
open Go

def NoQ : Exit → Act → World → Prop := fun _ _ _ => False

section
variable {P : Program} {ops : Array Oper} {C : World → Prop} {T : Nat → Bool}

/-- in every world of the class the operation yields v and leaves the world -/
def Oper.sees (P : Program) (o : Oper) (a : Act) (C : World → Prop) (v : Value) : Prop := ∀ w, C w → (execOp a.eval o).run P w = .ok (.value v) w

def Sees (P : Program) (ops : Array Oper) (C : World → Prop) (o : Oper) (v : Value) (a : Act) : Prop :=
  (Region.wanted o (yielded ops a.tmps) = true ∧ Oper.sees P o a C v) ∨ (Region.wanted o (yielded ops a.tmps) = false ∧ v = undef)

theorem Sees.uniq {o : Oper} {v u : Value} {a : Act} {w : World} (hC : C w) (h : Sees P ops C o v a) (k : Sees P ops C o u a) : v = u := by
  rcases h with ⟨hw, h⟩ | ⟨hw, rfl⟩ <;> rcases k with ⟨kw, k⟩ | ⟨kw, rfl⟩
  · have h1 := h w hC
    have h2 := k w hC
    rw [h1] at h2
    injection h2 with h2
    injection h2
  · rw [hw] at kw; cases kw
  · rw [hw] at kw; cases kw
  · rfl

theorem Sees.put {o o' : Oper} {v u : Value} {a : Act} (hs : ∀ cs b, o.op ≠ .select cs b) (hl : ∀ d, o'.dst = some d → d ∉ o.looksAt ops) : Sees P ops C o v (a.put o'.dst u) ↔ Sees P ops C o v a := by
  unfold Sees Oper.sees
  rw [wanted_put o a o'.dst u hl, execOp_put o hs a o'.dst u hl]

/-- the walk in the order of the text: T says which operations are blind -/
def mixI (P : Program) (ops : Array Oper) (C : World → Prop) (T : Nat → Bool) (Q : Act → World → Prop) : List Nat → Act → World → Prop
  | [], a, w => Q a w
  | i :: r, a, w =>
    match ops[i]? with
    | none => False
    | some o => if T i then ∃ v, Sees P ops C o v a ∧ mixI P ops C T Q r (a.put o.dst v) w
      else wpOp P ops NoQ i (fun a' w' => C w' ∧ mixI P ops C T Q r a' w') a w

theorem letsOut_noQ : ¬ LetsOut NoQ := fun ⟨_, _, h⟩ => h

/-- back: what holds with the slot written holds without, the slot written behind -/
theorem wp_unput {o o' : Oper} {a : Act} {w : World} {K K' : Act → World → Prop} {v : Value} (hs : ∀ cs b, o.op ≠ .select cs b) (hl : ∀ d, o'.dst = some d → d ∉ o.looksAt ops)
    (hK : ∀ (b : Act) (u : Value) (w' : World), b.tmps = a.tmps → K ((b.put o'.dst v).put o.dst u) w' → K' (b.put o.dst u) w') (h : o.wp P (a.put o'.dst v) w K NoQ) : o.wp P a w K' NoQ := by
  unfold Oper.wp at *
  rw [execOp_put o hs a o'.dst v hl] at h
  generalize (execOp a.eval o).run P w = r at h
  cases r with
  | ok n w' =>
    cases n <;> simp only [Oper.upon] at h ⊢
    case value u => exact hK a u w' rfl h
    case skip => exact hK a undef w' rfl h
    case defer d =>
      refine hK { a with defers := d :: a.defers } undef w' rfl ?_
      cases hx : o'.dst <;> rw [hx] at h <;> exact h
    case enter f args =>
      refine Calls.mono h fun e w'' he => ?_
      cases e with
      | returned u => exact hK a u w'' rfl he
      | panicked c => exact absurd he id
      | outgrown => exact absurd he letsOut_noQ
    case row r args => exact Rows.mono h fun u w'' he => hK a u w'' rfl he
    all_goals exact h
  | halt x w' => cases x <;> simp only [Oper.upon] at h <;> exact absurd h id

theorem wpOp_noQ {i : Nat} {o : Oper} (ho : ops[i]? = some o) {K : Act → World → Prop} {a : Act} {w : World} : wpOp P ops NoQ i K a w ↔ (if Region.wanted o (yielded ops a.tmps) then o.wp P a w K NoQ else K (a.put o.dst undef) w) := by
  simp only [wpOp, ho]
  split
  · exact ⟨fun h => h.resolve_right fun h => letsOut_noQ h.2, .inl⟩
  · exact Iff.rfl

theorem Sees.tmps {o : Oper} {v : Value} {a b : Act} (h : a.tmps = b.tmps) (hs : Sees P ops C o v a) : Sees P ops C o v b := by
  have he : a.eval = b.eval := by funext x; cases x <;> simp [Act.eval, h]
  unfold Sees Oper.sees at *
  rwa [← h, ← he]

variable {Q : Act → World → Prop}

theorem wp_ofNoQ {o : Oper} {a : Act} {w : World} {K : Act → World → Prop} {Q' : Exit → Act → World → Prop} (h : o.wp P a w K NoQ) : o.wp P a w K Q' := by
  unfold Oper.wp at *
  generalize (execOp a.eval o).run P w = r at h
  cases r with
  | ok n w' =>
    cases n <;> simp only [Oper.upon] at h ⊢ <;> first | exact h | skip
    case enter f args =>
      refine Calls.mono h fun e w'' he => ?_
      cases e with
      | returned u => exact he
      | panicked c => exact absurd he id
      | outgrown => exact absurd he letsOut_noQ
  | halt x w' => cases x <;> simp only [Oper.upon] at h <;> exact absurd h id

theorem wpOp_ofNoQ {i : Nat} {K : Act → World → Prop} {a : Act} {w : World} {Q' : Exit → Act → World → Prop} (h : wpOp P ops NoQ i K a w) : wpOp P ops Q' i K a w := by
  unfold wpOp at *
  split
  · rename_i ho; simp only [ho] at h; exact h
  · rename_i o ho
    simp only [ho] at h
    split
    · rename_i hw; simp only [hw, if_true] at h; exact .inl (wp_ofNoQ (h.resolve_right fun h => letsOut_noQ h.2))
    · rename_i hw; simp only [hw] at h; exact h

theorem wpOp_blind {i : Nat} {o : Oper} {v : Value} (ho : ops[i]? = some o) {K : Act → World → Prop} {a : Act} {w : World} (hC : C w) (hs : Sees P ops C o v a) (h : K (a.put o.dst v) w) : wpOp P ops NoQ i K a w := by
  rw [wpOp_noQ ho]
  rcases hs with ⟨hw, hv⟩ | ⟨hw, rfl⟩
  · rw [if_pos hw]
    unfold Oper.wp
    rw [hv w hC]
    exact h
  · rw [if_neg (by simp [hw])]
    exact h

/-! ### what is asked of the region: a Bool -/
/-- j waits for i, through others too -/
def reachB (md : Region.Mode) (ops : Array Oper) : Nat → Nat → Nat → Bool
  | 0, _, _ => false
  | n + 1, j, i => ((ops[j]?).map fun o => o.after.toList.any fun e => Region.binds md e && (e.on == i || reachB md ops n e.on i)).getD false

def waitsB (md : Region.Mode) (ops : Array Oper) (j i : Nat) : Bool := ((ops[j]?).map fun o => o.after.toList.any fun e => Region.binds md e && e.on == i).getD false

def pairB (md : Region.Mode) (ops : Array Oper) (T : Nat → Bool) (i j : Nat) : Bool :=
  waitsB md ops j i || (if T i || T j then ((ops[i]?).bind fun oi => (ops[j]?).map fun oj => oi.apart ops oj).getD true else reachB md ops (j + 1) j i)

def mixB (md : Region.Mode) (ops : Array Oper) (T : Nat → Bool) : Bool :=
  Region.noSelect ops && (List.range ops.size).all fun j => ((ops[j]?).map fun o => o.after.toList.all fun e => !Region.binds md e || decide (e.on < j)).getD true && (List.range j).all fun i => pairB md ops T i j

def Closed (md : Region.Mode) (ops : Array Oper) (listed : Array Bool) : Prop :=
  ∀ j o, ops[j]? = some o → listed.getD j false = true → ∀ e ∈ o.after, Region.binds md e = true → listed.getD e.on false = true

theorem reach_listed {md : Region.Mode} {listed : Array Bool} (hc : Closed md ops listed) : ∀ (n j i : Nat), reachB md ops n j i = true → (∀ o, ops[j]? = some o → ∀ e ∈ o.after, Region.binds md e = true → listed.getD e.on false = true) → listed.getD i false = true
  | 0, _, _, h, _ => by simp [reachB] at h
  | n + 1, j, i, h, hj => by
    unfold reachB at h
    cases ho : ops[j]? with
    | none => simp [ho] at h
    | some o =>
      simp only [ho, Option.map_some, Option.getD_some, List.any_eq_true, Bool.and_eq_true, Bool.or_eq_true, beq_iff_eq] at h
      obtain ⟨e, he, hb, h⟩ := h
      have hl := hj o ho e (Array.mem_toList_iff.1 he) hb
      rcases h with rfl | h
      · exact hl
      · exact reach_listed hc n e.on i h fun o' ho' e' he' hb' => hc e.on o' ho' hl e' he' hb'

end

/-! ### the walk -/
section
variable {P : Program} {ops : Array Oper} {C : World → Prop} {Q : Act → World → Prop}
/-- over the operations themselves; ts: which are blind -/
def mixL (P : Program) (ops : Array Oper) (C : World → Prop) (Q : Act → World → Prop) : List Oper → List Bool → Act → World → Prop
  | [], _, a, w => Q a w
  | o :: r, ts, a, w =>
    if ts.headD false then (if Region.wanted o (yielded ops a.tmps) then ∃ v, Oper.sees P o a C v ∧ mixL P ops C Q r ts.tail (a.put o.dst v) w else mixL P ops C Q r ts.tail (a.put o.dst undef) w)
    else (if Region.wanted o (yielded ops a.tmps) then o.wp P a w (fun a' w' => C w' ∧ mixL P ops C Q r ts.tail a' w') NoQ else C w ∧ mixL P ops C Q r ts.tail (a.put o.dst undef) w)

/-- operations that yield a value or panic -/
def valueOp : Op → Bool
  | .move _ | .assign _ | .pick .. | .binOp .. | .unOp .. | .convert .. | .fieldAddr .. | .field .. | .indexAddr .. | .index .. | .load .. | .extract .. | .slice .. | .lookup .. | .makeInterface .. | .build .. => true
  | .call c => match c.callee with | .builtin .len => true | .builtin .cap => true | .builtin .max => true | .builtin .min => true | _ => false
  | _ => false

theorem value_of_run {o : Oper} {ρ : Operand → Value} {w w' : World} {n : Next} (hop : valueOp o.op = true) (h : (execOp ρ o).run P w = .ok n w') : ∃ v, n = .value v := by
  have key : ∀ (s : Sem Value) (n : Next), (do pure (Next.value (← s)) : Sem Next).run P w = .ok n w' → ∃ v, n = .value v := fun s n h => by
    simp only [Sem.run_bind] at h
    cases hs : s.run P w with
    | ok v w1 =>
      rw [hs] at h
      simp only [Result.andThen_ok, Sem.run_pure, Result.ok.injEq] at h
      exact ⟨v, h.1.symm⟩
    | halt x w1 =>
      rw [hs] at h
      cases h
  have key2 : ∀ (v : Value) (n : Next), (pure (Next.value v) : Sem Next).run P w = .ok n w' → ∃ v, n = .value v := fun v n h => by
    simp only [Sem.run_pure, Result.ok.injEq] at h
    exact ⟨v, h.1.symm⟩
  have key3 : ∀ (X : Result Value), (X.andThen fun a w' => Result.ok (Next.value a) w') = .ok n w' → ∃ v, n = .value v := fun X h => by
    cases X with
    | ok v w1 =>
      simp only [Result.andThen_ok, Result.ok.injEq] at h
      exact ⟨v, h.1.symm⟩
    | halt x w1 => cases h
  unfold execOp at h
  cases hx : o.op <;> rw [hx] at hop h <;> first | (cases hop; done) | skip
  case move x => exact key2 _ _ h
  case assign x => exact key2 _ _ h
  case pick c x y =>
    simp only [Sem.run_bind] at h
    cases hs : (asBool (ρ c)).run P w with
    | ok v w1 =>
      rw [hs] at h
      simp only [Result.andThen_ok, Sem.run_pure, Result.ok.injEq] at h
      exact ⟨_, h.1.symm⟩
    | halt x w1 =>
      rw [hs] at h
      cases h
  case call c =>
    obtain ⟨cl, args, ty⟩ := c
    cases cl with
    | builtin b =>
      cases b <;> first | (cases hop; done) | skip
      all_goals
        simp only [resolve, Sem.run_bind, Sem.run_pure, Result.andThen_ok, invoke, builtin] at h
        exact key3 _ h
    | value f => cases hop
    | invoke r m => cases hop
  all_goals exact key _ _ h

end

end Go.Bl

namespace Go.Bl
open Go

/-- the values of the operations that m names, put -/
def putSome (vs : Nat → Value) (m : Nat → Bool) : List Oper → Nat → Act → Act
  | [], _, a => a
  | o :: r, k, a => putSome vs m r (k + 1) (if m k then a.put o.dst (vs k) else a)

/-- all values put -/
def putAll (vs : Nat → Value) : List Oper → Nat → Act → Act
  | [], _, a => a
  | o :: r, k, a => putAll vs r (k + 1) (a.put o.dst (vs k))

theorem put_size (a : Act) (d : Option Tmp) (v : Value) : (a.put d v).tmps.size = a.tmps.size := by cases d <;> simp [Act.put]

theorem put_defs (a : Act) (d : Option Tmp) (v : Value) : (a.put d v).defers = a.defers := by cases d <;> simp [Act.put]

theorem putSome_all {vs : Nat → Value} {m : Nat → Bool} : ∀ (l : List Oper) (k : Nat) (a : Act), (∀ i, k ≤ i → i < k + l.length → m i = true) → putSome vs m l k a = putAll vs l k a
  | [], _, _, _ => rfl
  | o :: r, k, a, h => by
    simp only [putSome, putAll]
    rw [if_pos (h k (Nat.le_refl _) (by simp))]
    exact putSome_all r (k + 1) _ fun i h1 h2 => h i (by omega) (by simp; omega)

theorem putSome_none {vs : Nat → Value} {m : Nat → Bool} : ∀ (l : List Oper) (k : Nat) (a : Act), (∀ i, k ≤ i → i < k + l.length → m i = false) → putSome vs m l k a = a
  | [], _, _, _ => rfl
  | o :: r, k, a, h => by
    simp only [putSome]
    rw [if_neg (by simp [h k (Nat.le_refl _) (by simp)])]
    exact putSome_none r (k + 1) _ fun i h1 h2 => h i (by omega) (by simp; omega)

theorem putSome_size {vs : Nat → Value} {m : Nat → Bool} : ∀ (l : List Oper) (k : Nat) (a : Act), (putSome vs m l k a).tmps.size = a.tmps.size
  | [], _, _ => rfl
  | o :: r, k, a => by
    simp only [putSome]
    rw [putSome_size r]
    split
    · exact put_size _ _ _
    · rfl

theorem putSome_defs {vs : Nat → Value} {m : Nat → Bool} : ∀ (l : List Oper) (k : Nat) (a : Act), (putSome vs m l k a).defers = a.defers
  | [], _, _ => rfl
  | o :: r, k, a => by
    simp only [putSome]
    rw [putSome_defs r]
    split
    · exact put_defs _ _ _
    · rfl

theorem put_tmp {a b : Act} {t : Tmp} (hs : a.tmps.size = b.tmps.size) (h : a.tmps[t]? = b.tmps[t]?) (d : Option Tmp) (v : Value) : (a.put d v).tmps[t]? = (b.put d v).tmps[t]? := by
  cases d with
  | none => exact h
  | some d =>
    by_cases e : d = t
    · subst e
      simp [Act.put, Array.getElem?_setIfInBounds, hs]
    · simp [Act.put, Array.getElem?_setIfInBounds_ne e, h]

theorem put_other {a : Act} {t : Tmp} {d : Option Tmp} {v : Value} (h : d ≠ some t) : (a.put d v).tmps[t]? = a.tmps[t]? := by
  cases d with
  | none => rfl
  | some d => simp [Act.put, Array.getElem?_setIfInBounds_ne (fun e : d = t => h (by rw [e]))]

theorem putSome_tmp {vs : Nat → Value} {m m' : Nat → Bool} {t : Tmp} : ∀ (l : List Oper) (k : Nat) (a b : Act), a.tmps.size = b.tmps.size → a.tmps[t]? = b.tmps[t]? → (∀ i o, l[i]? = some o → m (k + i) ≠ m' (k + i) → o.dst ≠ some t) →
    (putSome vs m l k a).tmps[t]? = (putSome vs m' l k b).tmps[t]?
  | [], _, _, _, _, h, _ => h
  | o :: r, k, a, b, hs, h, hd => by
    simp only [putSome]
    refine putSome_tmp r (k + 1) _ _ ?_ ?_ fun i o hi hm => hd (i + 1) o (by simpa using hi) (by rwa [← Nat.add_assoc, Nat.add_right_comm])
    · split <;> split <;> simp [put_size, hs]
    · have h0 := hd 0 o rfl
      rw [Nat.add_zero] at h0
      cases hm : m k <;> cases hm' : m' k <;> simp only [hm, hm', Bool.false_eq_true, if_false, if_true]
      · exact h
      · rw [put_other (h0 (by simp [hm, hm']))]; exact h
      · rw [put_other (h0 (by simp [hm, hm']))]; exact h
      · exact put_tmp hs h _ _

def updv (vs : Nat → Value) (j : Nat) (v : Value) : Nat → Value := fun i => if i = j then v else vs i

theorem putSome_congr {vs vs' : Nat → Value} {m m' : Nat → Bool} : ∀ (l : List Oper) (k : Nat) (a : Act), (∀ i, k ≤ i → i < k + l.length → m i = m' i ∧ vs i = vs' i) → putSome vs m l k a = putSome vs' m' l k a
  | [], _, _, _ => rfl
  | o :: r, k, a, h => by
    obtain ⟨h1, h2⟩ := h k (Nat.le_refl _) (by simp)
    simp only [putSome, h1, h2]
    exact putSome_congr r (k + 1) _ fun i h1 h2 => h i (by omega) (by simp; omega)

theorem putSome_put {vs : Nat → Value} {m : Nat → Bool} {d : Option Tmp} {v : Value} : ∀ (l : List Oper) (k : Nat) (a : Act), (∀ (i : Nat) (o : Oper), l[i]? = some o → ∀ t, o.dst = some t → d ≠ some t) → (putSome vs m l k a).put d v = putSome vs m l k (a.put d v)
  | [], _, _, _ => rfl
  | o :: r, k, a, h => by
    simp only [putSome]
    rw [putSome_put r (k + 1) _ fun i o hi => h (i + 1) o (by simpa using hi)]
    split
    · rw [Act.put_comm a _ _ (fun t ht => h 0 o rfl t ht)]
    · rfl

theorem putSome_upd {vs : Nat → Value} {m : Nat → Bool} {v : Value} : ∀ (l : List Oper) (k j : Nat) (a : Act) (oj : Oper), l[j]? = some oj → m (k + j) = false → (∀ i o, l[i]? = some o → i ≠ j → ∀ t, o.dst = some t → oj.dst ≠ some t) →
    (putSome vs m l k a).put oj.dst v = putSome (updv vs (k + j) v) (fun i => i == k + j || m i) l k a
  | [], _, _, _, _, h, _, _ => by simp at h
  | o :: r, k, 0, a, oj, h, hm, hd => by
    simp only [List.getElem?_cons_zero, Option.some.injEq] at h
    subst h
    rw [Nat.add_zero] at hm ⊢
    simp only [putSome, hm, Bool.false_eq_true, if_false, beq_self_eq_true, Bool.true_or, if_true]
    rw [putSome_put r (k + 1) a fun i o' hi => hd (i + 1) o' (by simpa using hi) (by omega)]
    simp only [updv, if_true]
    exact putSome_congr r (k + 1) _ fun i h1 _ => ⟨by simp [show i ≠ k by omega], by rw [updv, if_neg (by omega)]⟩
  | o :: r, k, j + 1, a, oj, h, hm, hd => by
    have ih := putSome_upd (vs := vs) (m := m) (v := v) r (k + 1) j (if m k then a.put o.dst (vs k) else a) oj (by simpa using h) (by rwa [Nat.add_assoc, Nat.add_comm 1 j]) fun i o' hi hij => hd (i + 1) o' (by simpa using hi) (by omega)
    have e : k + 1 + j = k + (j + 1) := by omega
    simp only [putSome]
    rw [ih, e]
    have e2 : (k == k + (j + 1) || m k) = m k := by simp
    simp only [e2, show updv vs (k + (j + 1)) v k = vs k by simp [updv]]

theorem put_eq {a b : Act} {d : Option Tmp} {u v : Value} (hs : a.tmps.size = b.tmps.size) (h : a.put d u = a.put d v) : b.put d u = b.put d v := by
  cases d with
  | none => rfl
  | some d =>
    by_cases hd : d < a.tmps.size
    · have := congrArg (fun x : Act => x.tmps[d]?) h
      simp only [Act.put, Array.getElem?_setIfInBounds_self_of_lt hd, Option.some.injEq] at this
      rw [this]
    · have e : ∀ z, b.tmps.setIfInBounds d z = b.tmps := fun z => Array.setIfInBounds_eq_of_size_le (by rw [← hs]; exact Nat.le_of_not_lt hd)
      simp [Act.put, e]

variable {P : Program} {ops : Array Oper}

/-- an operation, shown in one frame, in another that is the same where it looks -/
theorem wp_frame {o : Oper} {F b : Act} {w : World} {G : Value → World → Prop} {K : Act → World → Prop} (hs : ∀ cs b, o.op ≠ .select cs b) (hsz : F.tmps.size = b.tmps.size) (hdf : F.defers = b.defers)
    (hl : ∀ t, t ∈ o.looksAt ops → F.tmps[t]? = b.tmps[t]?) (h : o.wp P F w (fun a' w' => ∃ v, a' = F.put o.dst v ∧ G v w') NoQ) (hK : ∀ v w', G v w' → K (b.put o.dst v) w') : o.wp P b w K NoQ := by
  have he : execOp b.eval o = execOp F.eval o := execOp_congr o hs fun x hx => by
    cases x with
    | tmp t =>
      have := hl t (List.mem_append_left _ (List.mem_filterMap.2 ⟨.tmp t, by simpa using hx, rfl⟩))
      simp [Act.eval, this]
    | _ => rfl
  unfold Oper.wp at *
  rw [he]
  generalize (execOp F.eval o).run P w = r at h
  have fin : ∀ u w', (∃ v, F.put o.dst u = F.put o.dst v ∧ G v w') → K (b.put o.dst u) w' := fun u w' ⟨v, hv, hg⟩ => by
    rw [put_eq hsz hv]
    exact hK v w' hg
  cases r with
  | ok n w' =>
    cases n <;> simp only [Oper.upon] at h ⊢
    case value u => exact fin u w' h
    case skip => exact fin undef w' h
    case defer d =>
      obtain ⟨v, hv, _⟩ := h
      have := congrArg (fun x : Act => x.defers.length) hv
      simp [put_defs] at this
    case enter f args =>
      refine Calls.mono h fun e w'' he => ?_
      cases e with
      | returned u => exact fin u w'' he
      | panicked c => exact absurd he id
      | outgrown => exact absurd he letsOut_noQ
    case row r args => exact Rows.mono h fun u w'' he => fin u w'' he
    all_goals exact h
  | halt x w' => cases x <;> simp only [Oper.upon] at h <;> exact absurd h id

/-- what is asked of the region -/
def invB (l : List Oper) : Bool :=
  Region.noSelect l.toArray && (List.range l.length).all fun j => (l[j]?.map fun o => o.guard.isNone && (o.after.toList.all fun e => !Region.binds .any e || decide (e.on < j)) &&
    (List.range l.length).all fun i => (l[i]?.map fun oi => match oi.dst with
      | none => true
      | some d => (i == j || o.dst != some d) && (!(o.looksAt l.toArray).contains d || (decide (i < j) && reachB .any l.toArray (j + 1) j i))).getD true).getD true

/-- what is shown of each operation -/
def Ops (P : Program) (I : Nat → World → Prop) (M : World → World → Prop) (tot : Nat) (a : Act) (l : List Oper) (Φ : Nat → Value → World → Prop) : List Oper → List Nat → Nat → Prop
  | [], _, _ => True
  | o :: r, cs, j => (∀ vs w k, I k w → k + cs.headD 0 ≤ tot → (∀ i, i < j → reachB .any l.toArray (j + 1) j i = true → Φ i (vs i) w) →
      o.wp P (putAll vs l 0 a) w (fun a' w' => ∃ v, a' = (putAll vs l 0 a).put o.dst v ∧ I (k + cs.headD 0) w' ∧ M w w' ∧ Φ j v w') NoQ) ∧ Ops P I M tot a l Φ r cs.tail (j + 1)

theorem Ops.at_ {I : Nat → World → Prop} {M : World → World → Prop} {tot : Nat} {a : Act} {l : List Oper} {Φ : Nat → Value → World → Prop} : ∀ {l' : List Oper} {cs : List Nat} {k : Nat}, Ops P I M tot a l Φ l' cs k → ∀ {i : Nat} {o : Oper}, l'[i]? = some o →
    ∀ vs w n, I n w → n + cs.getD i 0 ≤ tot → (∀ d, d < k + i → reachB .any l.toArray (k + i + 1) (k + i) d = true → Φ d (vs d) w) →
      o.wp P (putAll vs l 0 a) w (fun a' w' => ∃ v, a' = (putAll vs l 0 a).put o.dst v ∧ I (n + cs.getD i 0) w' ∧ M w w' ∧ Φ (k + i) v w') NoQ
  | [], _, _, _, _, _, h => by simp at h
  | _ :: _, cs, k, h, 0, o, ho => by
    simp only [List.getElem?_cons_zero, Option.some.injEq] at ho
    subst ho
    cases cs <;> exact h.1
  | _ :: r, cs, k, h, i + 1, o, ho => by
    have := Ops.at_ h.2 (i := i) (o := o) (by simpa using ho)
    rw [Nat.add_assoc, Nat.add_comm 1 i] at this
    cases cs
    · simpa using this
    · simpa using this

/-- the same, the frames written out (F), what follows an operation unknown -/
def OpsF (P : Program) (I : Nat → World → Prop) (M : World → World → Prop) (tot : Nat) (F : (Nat → Value) → Act) (l : List Oper) (Φ : Nat → Value → World → Prop) : List Oper → List Nat → Nat → Prop
  | [], _, _ => True
  | o :: r, cs, j => (∀ vs w k, I k w → k + cs.headD 0 ≤ tot → (∀ i, i < j → reachB .any l.toArray (j + 1) j i = true → Φ i (vs i) w) → ∀ K : Act → World → Prop, (∀ v w', I (k + cs.headD 0) w' → M w w' → Φ j v w' → K ((F vs).put o.dst v) w') → o.wp P (F vs) w K NoQ) ∧ OpsF P I M tot F l Φ r cs.tail (j + 1)

theorem OpsF.op {I : Nat → World → Prop} {M : World → World → Prop} {tot : Nat} {F : (Nat → Value) → Act} {l : List Oper} {Φ : Nat → Value → World → Prop} {o : Oper} {r : List Oper} {c : Nat} {cs : List Nat} {j : Nat}
    (h : ∀ vs w k, I k w → k + c ≤ tot → (∀ i, i < j → reachB .any l.toArray (j + 1) j i = true → Φ i (vs i) w) → ∀ K : Act → World → Prop, (∀ v w', I (k + c) w' → M w w' → Φ j v w' → K ((F vs).put o.dst v) w') → o.wp P (F vs) w K NoQ)
    (hr : OpsF P I M tot F l Φ r cs (j + 1)) : OpsF P I M tot F l Φ (o :: r) (c :: cs) j := ⟨h, hr⟩

theorem OpsF.done {I : Nat → World → Prop} {M : World → World → Prop} {tot : Nat} {F : (Nat → Value) → Act} {l : List Oper} {Φ : Nat → Value → World → Prop} {cs : List Nat} {j : Nat} : OpsF P I M tot F l Φ [] cs j := trivial

end Go.Bl

namespace Go.Bl
open Go
variable {P : Program} {ops : Array Oper}

def setm (m : Nat → Bool) (j : Nat) : Nat → Bool := fun i => i == j || m i

/-- what is done has all done that it waits for -/
def Cl (l : List Oper) (m : Nat → Bool) : Prop := ∀ i x, i < l.length → x < l.length → m i = true → reachB .any l.toArray (i + 1) i x = true → m x = true

/-- what is shown of each operation -/
def MOps (P : Program) (I : (Nat → Bool) → Nat → World → Prop) (M : (Nat → Bool) → World → World → Prop) (tot : Nat) (a : Act) (l : List Oper) (Φ : Nat → Value → World → Prop) : List Oper → List Nat → Nat → Prop
  | [], _, _ => True
  | o :: r, cs, j => (∀ vs w m k, m j = false → Cl l m → I m k w → k + cs.headD 0 ≤ tot → (∀ i, i < j → reachB .any l.toArray (j + 1) j i = true → Φ i (vs i) w) →
      o.wp P (putAll vs l 0 a) w (fun a' w' => ∃ v, a' = (putAll vs l 0 a).put o.dst v ∧ I (setm m j) (k + cs.headD 0) w' ∧ M m w w' ∧ Φ j v w') NoQ) ∧ MOps P I M tot a l Φ r cs.tail (j + 1)

theorem MOps.at_ {I : (Nat → Bool) → Nat → World → Prop} {M : (Nat → Bool) → World → World → Prop} {tot : Nat} {a : Act} {l : List Oper} {Φ : Nat → Value → World → Prop} : ∀ {l' : List Oper} {cs : List Nat} {k : Nat}, MOps P I M tot a l Φ l' cs k → ∀ {i : Nat} {o : Oper}, l'[i]? = some o →
    ∀ vs w m n, m (k + i) = false → Cl l m → I m n w → n + cs.getD i 0 ≤ tot → (∀ d, d < k + i → reachB .any l.toArray (k + i + 1) (k + i) d = true → Φ d (vs d) w) →
      o.wp P (putAll vs l 0 a) w (fun a' w' => ∃ v, a' = (putAll vs l 0 a).put o.dst v ∧ I (setm m (k + i)) (n + cs.getD i 0) w' ∧ M m w w' ∧ Φ (k + i) v w') NoQ
  | [], _, _, _, _, _, h => by simp at h
  | _ :: _, cs, k, h, 0, o, ho => by
    simp only [List.getElem?_cons_zero, Option.some.injEq] at ho
    subst ho
    cases cs <;> exact h.1
  | _ :: r, cs, k, h, i + 1, o, ho => by
    have := MOps.at_ h.2 (i := i) (o := o) (by simpa using ho)
    rw [Nat.add_assoc, Nat.add_comm 1 i] at this
    cases cs
    · simpa using this
    · simpa using this

/-- the same, the frames written out (F), what follows an operation unknown -/
def MOpsF (P : Program) (I : (Nat → Bool) → Nat → World → Prop) (M : (Nat → Bool) → World → World → Prop) (tot : Nat) (F : (Nat → Value) → Act) (l : List Oper) (Φ : Nat → Value → World → Prop) : List Oper → List Nat → Nat → Prop
  | [], _, _ => True
  | o :: r, cs, j => (∀ vs w m k, m j = false → Cl l m → I m k w → k + cs.headD 0 ≤ tot → (∀ i, i < j → reachB .any l.toArray (j + 1) j i = true → Φ i (vs i) w) → ∀ K : Act → World → Prop, (∀ v w', I (setm m j) (k + cs.headD 0) w' → M m w w' → Φ j v w' → K ((F vs).put o.dst v) w') → o.wp P (F vs) w K NoQ) ∧ MOpsF P I M tot F l Φ r cs.tail (j + 1)

theorem MOpsF.op {I : (Nat → Bool) → Nat → World → Prop} {M : (Nat → Bool) → World → World → Prop} {tot : Nat} {F : (Nat → Value) → Act} {l : List Oper} {Φ : Nat → Value → World → Prop} {o : Oper} {r : List Oper} {c : Nat} {cs : List Nat} {j : Nat}
    (h : ∀ vs w m k, m j = false → Cl l m → I m k w → k + c ≤ tot → (∀ i, i < j → reachB .any l.toArray (j + 1) j i = true → Φ i (vs i) w) → ∀ K : Act → World → Prop, (∀ v w', I (setm m j) (k + c) w' → M m w w' → Φ j v w' → K ((F vs).put o.dst v) w') → o.wp P (F vs) w K NoQ)
    (hr : MOpsF P I M tot F l Φ r cs (j + 1)) : MOpsF P I M tot F l Φ (o :: r) (c :: cs) j := ⟨h, hr⟩

theorem MOpsF.done {I : (Nat → Bool) → Nat → World → Prop} {M : (Nat → Bool) → World → World → Prop} {tot : Nat} {F : (Nat → Value) → Act} {l : List Oper} {Φ : Nat → Value → World → Prop} {cs : List Nat} {j : Nat} : MOpsF P I M tot F l Φ [] cs j := trivial

end Go.Bl

namespace Go.Bl
open Go

def blk (A : Option Addr) : Option Nat := A.map (·.block)

theorem ownBlock_slice (A : Option Addr) (n c : Nat) : (Value.slice A n c).ownBlock = blk A := by cases A <;> rfl

/-- a flat row stands where its own block is not written -/
theorem Sl.ne {α : Type} [Enc α] [Flat α] {w w' : World} {lo : Nat} {A : Option Addr} {l : List α} {r : Option Nat} (h : Sl w lo A l) (hg : w.grownBy w' r) (hne : ∀ g, blk A = some g → r ≠ some g) : Sl w' lo A l := by
  obtain ⟨hm, cs, hr, hl⟩ := h
  refine ⟨hm, cs, hr.flat, fun hc => ?_⟩
  obtain ⟨ad, e, hb, hcs⟩ := hl hc
  subst e
  exact ⟨ad, rfl, hb, fun j u hu => gr_cell hg (hcs j u hu) (by rw [block_of_add]; exact hne _ rfl)⟩

theorem gr_froz {w w1 : World} {r : Option Nat} (h : w.grownBy w1 r) {p : Addr} {v : Value} (hc : w.cell? p = some v) (hne : r ≠ some p.block) (hf : w.frozen? p = false) : w1.frozen? p = false :=
  (World.frozen?_of_block (h.block _ (World.block_lt_of_cell? w p hc) (fun e => hne e.symm))).trans hf

/-- what an append to A leaves: only A's block is written, and what comes of it lies there or is new -/
def Grew (A A' : Option Addr) (w w' : World) : Prop := w.grownBy w' (blk A) ∧ (blk A' = blk A ∨ blk A' = some w.heap.size)

section
variable {P : Program} {α : Type} [Enc α] [Flat α]

theorem run_pushAt (w : World) (lo : Nat) (t ty e : TypeId) (i : TypeInfo) (z : Value) (bytes : Nat) (ht : P.underlying t = some (.slice e)) (hi : P.info? e = some i) (hz : i.zero = some z)
    (hsize : i.size = Enc.sz α) (hby : i.bytes = bytes) (hzs : z.cells.size = Enc.sz α)
    (A : Option Addr) (c : Nat) (l : List α) (hown : Own w lo e A c l) (lo2 : Nat) (ad : Addr) (cc : Nat) (l2 : List α) (hsl : Sl w lo2 (some ad) l2)
    (hbytes : (l.length + l2.length) * bytes ≤ 140737488355328) (h63 : l.length + l2.length ≤ maxLen) (hbase : lo ≤ w.heap.size) :
    ∃ A' c' w', (Builtin.append_ #[t, t] ty #[.slice A l.length c, .slice (some ad) l2.length cc]).run P w = .ok (.slice A' (l ++ l2).length c') w' ∧ Own w' lo e A' c' (l ++ l2) ∧ Grew A A' w w' := by
  obtain ⟨hm, cs, hr, ho⟩ := hown
  obtain ⟨hm2, cs2, hr2, hl2⟩ := hsl
  have hlen2 : cs2.length = l2.length * Enc.sz α := hr2.len
  have hnews : ∀ j u, cs2[j]? = some u → w.cell? (ad.add j) = some u := fun j u hu => by
    obtain ⟨ad', h1, _, h3⟩ := hl2 (by rintro rfl; simp at hu)
    injection h1 with h1
    subst h1
    exact h3 j u hu
  obtain ⟨v', w', hrun, ho', hg, _, hb⟩ := run_append_own_at (P := P) w lo t ty e i z (Enc.sz α) bytes ht hi hz hsize hby hzs Flat.pos _ _ cs ho ad l2.length cc cs2 hlen2 hnews hr2.one h63 hbytes hbase
  rw [ownBlock_slice] at hg hb
  have hlen : (l ++ l2).length = l.length + l2.length := List.length_append
  rcases ho'.2 with ⟨rfl, h0⟩ | ⟨g, cap, cur, rfl, rest⟩
  · refine ⟨none, 0, w', ?_, ⟨by omega, cs ++ cs2, (hr.flat).append (hr2.flat), ?_⟩, hg, hb⟩
    · rw [hrun, hlen, h0]
    · rw [hlen, h0] at *
      exact ho'
  · refine ⟨some ⟨g, 0, none⟩, cap, w', ?_, ⟨by omega, cs ++ cs2, (hr.flat).append (hr2.flat), ?_⟩, hg, hb⟩
    · rw [hrun, hlen]
    · rw [hlen]
      exact ho'

theorem wp_pushAt {o : Oper} {a : Act} {K : Act → World → Prop} {Q : Exit → Act → World → Prop} (w : World) (s x : Operand) (t : TypeId)
    (ho : o.op = .call { callee := .builtin .append, args := #[s, x], argTypes := #[t, t] })
    (lo : Nat) (e : TypeId) (i : TypeInfo) (z : Value) (bytes : Nat) (ht : P.underlying t = some (.slice e)) (hi : P.info? e = some i) (hz : i.zero = some z)
    (hsize : i.size = Enc.sz α) (hby : i.bytes = bytes) (hzs : z.cells.size = Enc.sz α)
    (A : Option Addr) (n c : Nat) (l : List α) (hs : a.eval s = .slice A n c) (hn : n = l.length) (hown : Own w lo e A c l)
    (lo2 : Nat) (ad : Addr) (m cc : Nat) (l2 : List α) (hx : a.eval x = .slice (some ad) m cc) (hm : m = l2.length) (hsl : Sl w lo2 (some ad) l2)
    (hbytes : (l.length + l2.length) * bytes ≤ 140737488355328) (h63 : l.length + l2.length ≤ maxLen) (hbase : lo ≤ w.heap.size)
    (h : ∀ A' c' w', Own w' lo e A' c' (l ++ l2) → Grew A A' w w' → K (a.put o.dst (.slice A' (l ++ l2).length c')) w') : o.wp P a w K Q := by
  subst hn
  subst hm
  obtain ⟨A', c', w', hrun, h2, h3⟩ := run_pushAt (P := P) w lo t o.type e i z bytes ht hi hz hsize hby hzs A c l hown lo2 ad cc l2 hsl hbytes h63 hbase
  unfold Oper.wp execOp
  simp only [ho, resolve, invoke, builtin, Sem.run_bind, Sem.run_pure, Result.andThen_ok, List.map_toArray, List.map_cons, List.map_nil, hs, hx, hrun]
  exact h A' c' w' h2 h3

end

theorem Own.blk_lt {α : Type} [Enc α] {w : World} {lo : Nat} {e : TypeId} {A : Option Addr} {c : Nat} {l : List α} (h : Own w lo e A c l) {g : Nat} (hg : blk A = some g) : lo ≤ g ∧ g < w.heap.size := by
  obtain ⟨_, cs, _, ho⟩ := h
  exact ho.lt g (by rw [ownBlock_slice]; exact hg)
/-- a row of one's own stands where another block is written -/
theorem Own.ne {α : Type} [Enc α] [Flat α] {w w' : World} {lo : Nat} {e : TypeId} {A : Option Addr} {c : Nat} {l : List α} {r : Option Nat} (h : Own w lo e A c l) (hg : w.grownBy w' r) (hne : ∀ g, blk A = some g → r ≠ some g) : Own w' lo e A c l := by
  obtain ⟨hm, cs, hr, ho⟩ := h
  refine ⟨hm, cs, hr.flat, ho.kept hg ?_⟩
  rw [ownBlock_slice]
  rcases hb : blk A with _ | g
  · exact .inl rfl
  · exact .inr (fun e => hne g hb e.symm)

theorem Grew.upd {A A' : Option Addr} {w w' : World} {α : Type} [Enc α] {lo : Nat} {e : TypeId} {c : Nat} {l : List α} (h : Grew A A' w w') (ho : Own w lo e A c l) : Upd lo w w' := ⟨_, h.1, fun _ hg => (ho.blk_lt hg).1⟩

end Go.Bl

namespace Go.Bl
open Go Go.RowKit

theorem made_succ (z : Array Value) (hz : 0 < z.size) (n : Nat) : (madeCells z ((n + 1) * z.size)).toList = z.toList ++ (madeCells z (n * z.size)).toList := by
  apply List.ext_getElem?
  intro j
  by_cases hj : j < z.size
  · have h1 : j < (n + 1) * z.size := by rw [Nat.add_mul]; omega
    rw [List.getElem?_append_left (by simpa using hj)]
    simp [madeCells, h1, Nat.mod_eq_of_lt hj, hj]
  · rw [List.getElem?_append_right (by simpa using hj)]
    by_cases h2 : j < (n + 1) * z.size
    · have h3 : j - z.size < n * z.size := by rw [Nat.add_mul] at h2; omega
      have h4 : (j - z.size) % z.size = j % z.size := by
        rw [← Nat.mod_eq_sub_mod (by omega)]
      simp [madeCells, h2, h3, h4]
    · have h3 : ¬ j - z.size < n * z.size := by rw [Nat.add_mul] at h2; omega
      simp [madeCells, h2, h3]

theorem row_made {α : Type} [Enc α] [Flat α] (w : World) (lo : Nat) (x : α) (z : Array Value) (hz : z.size = Enc.sz α) (hx : Enc.rep w lo x z.toList) : ∀ n, Row w lo (List.replicate n x) (madeCells z (n * Enc.sz α)).toList
  | 0 => by simp [madeCells]; rfl
  | n + 1 => by
    rw [← hz, made_succ z (by rw [hz]; exact Flat.pos) n, List.replicate_succ, hz]
    exact ⟨_, _, rfl, hx, row_made w lo x z hz hx n⟩

section
variable {P : Program} {α : Type} [Enc α] [Flat α]

theorem run_makeOwn (w : World) (t e : TypeId) (i : TypeInfo) (z : Value) (x : α) (ht : P.underlying t = some (.slice e)) (hi : P.info? e = some i) (hz : i.zero = some z) (hsize : i.size = Enc.sz α) (hzs : z.cells.size = Enc.sz α)
    (hx : Enc.rep w w.heap.size x z.cells.toList) (kl kc : IntKind) (n : Nat) (hbytes : i.bytes * n ≤ 281474976710656) (h63 : n ≤ maxLen) :
    ∃ w', (Instr.makeSlice t (.int kl (n : Int)) (.int kc (n : Int))).run P w = .ok (.slice (some ⟨w.heap.size, 0, none⟩) n n) w' ∧ Own w' w.heap.size e (some ⟨w.heap.size, 0, none⟩) n (List.replicate n x) ∧ w.grownBy w' none := by
  obtain ⟨w', hr, ho, hg⟩ := run_make_full (P := P) w w.heap.size t e i z (Enc.sz α) ht hi hz hsize kl kc n hbytes h63 (Nat.le_refl _)
  refine ⟨w', hr, ⟨by simpa using h63, _, (row_made w w.heap.size x z.cells hzs hx n).flat, ?_⟩, hg⟩
  rw [List.length_replicate]
  exact ho

end

end Go.Bl

namespace Go.Bl
open Go
variable {P : Program} {ops : Array Oper} {C : World → Prop} {Q : Act → World → Prop}

inductive Plan | done | bl (j : Nat) (p : Plan) | ef (j : Nat) (p : Plan) | alt (p q : Plan)

/-- in which worlds an operation of a kind is looked at: 1 in C, 2 in all -/
def clsT (C : World → Prop) (k : Nat) : World → Prop := fun w => k = 1 → C w

def SeesT (P : Program) (ops : Array Oper) (C : World → Prop) (k : Nat) (o : Oper) (v : Value) (a : Act) : Prop := Sees P ops (clsT C k) o v a

def runP (P : Program) (ops : Array Oper) (C : World → Prop) (T : Nat → Nat) (need : Nat → Bool) (Q : Act → World → Prop) : Plan → Act → World → Prop
  | .done, a, w => Q a w
  | .bl j p, a, w => ∃ o, ops[j]? = some o ∧ ∃ v, SeesT P ops C (T j) o v a ∧ runP P ops C T need Q p (a.put o.dst v) w
  | .ef j p, a, w => wpOp P ops NoQ j (fun a' w' => (need j = true → C w') ∧ runP P ops C T need Q p a' w') a w
  | .alt p q, a, w => runP P ops C T need Q p a w ∧ runP P ops C T need Q q a w

def readyB (ops : Array Oper) (m : Nat → Bool) (j : Nat) : Bool := !m j && ((ops[j]?).map fun o => o.after.toList.all fun e => !Region.binds .any e || m e.on).getD false

def inFront (j : Nat) : Plan → Bool
  | .ef i _ => i == j
  | .alt p q => inFront j p || inFront j q
  | _ => false

def frontB (ops : Array Oper) (T : Nat → Nat) (p : Plan) (m : Nat → Bool) : Bool := (List.range ops.size).all fun j => !readyB ops m j || (T j == 0 && inFront j p)

def okP (ops : Array Oper) (T : Nat → Nat) : Plan → Bool → (Nat → Bool) → Bool
  | .done, f, m => !f && (List.range ops.size).all fun j => m j
  | .bl j p, f, m => !f && (readyB ops m j && (T j != 0 && okP ops T p false (setm m j)))
  | .ef j p, f, m => (f || frontB ops T (.ef j p) m) && (readyB ops m j && (T j == 0 && okP ops T p false (setm m j)))
  | .alt p q, f, m => (f || frontB ops T (.alt p q) m) && (okP ops T p true m && okP ops T q true m)

theorem setm_comm (m : Nat → Bool) (i j : Nat) : setm (setm m i) j = setm (setm m j) i := by
  funext x; simp only [setm]; rw [Bool.or_left_comm]

theorem readyB_setm {m : Nat → Bool} {i j : Nat} (h : readyB ops m j = true) (hij : j ≠ i) : readyB ops (setm m i) j = true := by
  unfold readyB at h ⊢
  rw [Bool.and_eq_true] at h ⊢
  obtain ⟨h1, h2⟩ := h
  refine ⟨by simp only [setm, show (j == i) = false from beq_eq_false_iff_ne.2 hij, Bool.false_or]; exact h1, ?_⟩
  cases ho : ops[j]? with
  | none => rw [ho] at h2; simp at h2
  | some o =>
    rw [ho] at h2
    simp only [Option.map_some, Option.getD_some, List.all_eq_true, Bool.or_eq_true] at h2 ⊢
    intro e he
    rcases h2 e he with h | h
    · exact .inl h
    · exact .inr (by simp only [setm, h, Bool.or_true])

theorem readyB_not {m : Nat → Bool} {j : Nat} (h : readyB ops m j = true) : m j = false := by
  unfold readyB at h; rw [Bool.and_eq_true] at h; simpa using h.1

theorem readyB_some {m : Nat → Bool} {j : Nat} (h : readyB ops m j = true) : ∃ o, ops[j]? = some o := by
  unfold readyB at h; rw [Bool.and_eq_true] at h
  cases ho : ops[j]? with
  | none => rw [ho] at h; simp at h
  | some o => exact ⟨o, rfl⟩

/-- what is asked of the operations two by two -/
def apartB (ops : Array Oper) (T : Nat → Nat) : Bool :=
  Region.noSelect ops && ((List.range ops.size).all fun j => ((ops[j]?).map fun o => o.after.toList.all fun e => !Region.binds .any e || decide (e.on < j)).getD true &&
    (List.range ops.size).all fun i => i == j || T i == 0 || waitsB .any ops j i || waitsB .any ops i j || ((ops[i]?).bind fun oi => (ops[j]?).map fun oj => oi.apart ops oj).getD true)

def needB (ops : Array Oper) (T : Nat → Nat) (k : Nat) : Bool := (List.range ops.size).any fun i => T i == 1 && !reachB .any ops (k + 1) k i

theorem runP_front {T : Nat → Nat} {need : Nat → Bool} {j : Nat} : ∀ {p : Plan} {m : Nat → Bool} {a : Act} {w : World}, inFront j p = true → okP ops T p true m = true → runP P ops C T need Q p a w →
    ∃ p', okP ops T p' false (setm m j) = true ∧ wpOp P ops NoQ j (fun a' w' => (need j = true → C w') ∧ runP P ops C T need Q p' a' w') a w
  | .done, m, a, w, hf, _, _ => by simp [inFront] at hf
  | .bl _ _, m, a, w, hf, _, _ => by simp [inFront] at hf
  | .ef i p, m, a, w, hf, hok, h => by
    simp only [inFront, beq_iff_eq] at hf
    subst hf
    simp only [okP, Bool.true_or, Bool.true_and, Bool.and_eq_true] at hok
    exact ⟨p, hok.2.2, h⟩
  | .alt p q, m, a, w, hf, hok, h => by
    simp only [inFront, Bool.or_eq_true] at hf
    simp only [okP, Bool.true_or, Bool.true_and, Bool.and_eq_true] at hok
    rcases hf with hf | hf
    · exact runP_front hf hok.1 h.1
    · exact runP_front hf hok.2 h.2

section
variable {T : Nat → Nat} {need : Nat → Bool} (hsel : ∀ (k : Nat) (o : Oper) cs b, ops[k]? = some o → o.op ≠ .select cs b)
  (hap : ∀ (m : Nat → Bool) (i j : Nat) oi oj, i ≠ j → T i ≠ 0 → readyB ops m i = true → readyB ops m j = true → ops[i]? = some oi → ops[j]? = some oj → oi.apart ops oj = true)
include hsel hap

theorem runP_eff {j : Nat} {oj : Oper} (hj : ops[j]? = some oj) (htj : T j = 0) : ∀ {p : Plan} {m : Nat → Bool} {a : Act} {w : World}, okP ops T p false m = true → readyB ops m j = true → runP P ops C T need Q p a w →
    ∃ p', okP ops T p' false (setm m j) = true ∧ wpOp P ops NoQ j (fun a' w' => (need j = true → C w') ∧ runP P ops C T need Q p' a' w') a w
  | .done, m, a, w, hok, hr, h => by
    have h1 := readyB_not hr
    simp only [okP, Bool.not_false, Bool.true_and, List.all_eq_true, List.mem_range] at hok
    rw [hok j (Array.getElem?_eq_some_iff.1 hj).1] at h1
    cases h1
  | .ef i p, m, a, w, hok, hr, h => by
    have hok' := hok
    simp only [okP, Bool.false_or, Bool.and_eq_true, frontB, List.all_eq_true, List.mem_range] at hok
    have := hok.1 j (Array.getElem?_eq_some_iff.1 hj).1
    simp only [hr, Bool.not_true, Bool.false_or, Bool.and_eq_true] at this
    refine runP_front this.2 ?_ h
    simp only [okP, Bool.true_or, Bool.true_and, Bool.and_eq_true]
    exact hok.2
  | .alt p q, m, a, w, hok, hr, h => by
    simp only [okP, Bool.false_or, Bool.and_eq_true, frontB, List.all_eq_true, List.mem_range] at hok
    have := hok.1 j (Array.getElem?_eq_some_iff.1 hj).1
    simp only [hr, Bool.not_true, Bool.false_or, Bool.and_eq_true] at this
    refine runP_front this.2 ?_ h
    simp only [okP, Bool.true_or, Bool.true_and, Bool.and_eq_true]
    exact hok.2
  | .bl i p, m, a, w, hok, hr, h => by
    simp only [okP, Bool.not_false, Bool.true_and, Bool.and_eq_true, bne_iff_ne] at hok
    obtain ⟨hri, hti, hokp⟩ := hok
    obtain ⟨oi, hoi, vi, hsi, h⟩ := h
    have hij : i ≠ j := by rintro rfl; exact hti htj
    have hapij := hap m i j oi oj hij hti hri hr hoi hj
    obtain ⟨h1, h2, h3⟩ := Oper.apart_spec hapij
    obtain ⟨p', hp', ih⟩ := runP_eff hj htj hokp (readyB_setm hr (Ne.symm hij)) h
    rw [setm_comm] at hp'
    refine ⟨.bl i p', ?_, ?_⟩
    · simp only [okP, Bool.not_false, Bool.true_and, Bool.and_eq_true, bne_iff_ne]
      exact ⟨readyB_setm hri hij, hti, hp'⟩
    · rw [wpOp_noQ hj, wanted_put oj a oi.dst vi h1] at ih
      rw [wpOp_noQ hj]
      have fin : ∀ (b : Act) (u : Value) (w' : World), b.tmps = a.tmps → ((need j = true → C w') ∧ runP P ops C T need Q p' ((b.put oi.dst vi).put oj.dst u) w') → ((need j = true → C w') ∧ runP P ops C T need Q (.bl i p') (b.put oj.dst u) w') := fun b u w' hb hk => by
        refine ⟨hk.1, oi, hoi, vi, (Sees.put (fun cs b => hsel i oi cs b hoi) h3).2 (hsi.tmps hb.symm), ?_⟩
        rw [← Act.put_comm b vi u h2]
        exact hk.2
      by_cases hw : Region.wanted oj (yielded ops a.tmps) = true
      · rw [if_pos hw] at ih ⊢
        exact wp_unput (fun cs b => hsel j oj cs b hj) h1 fin ih
      · rw [if_neg hw] at ih ⊢
        exact fin a undef w rfl ih

theorem runP_blind {j : Nat} {oj : Oper} (hj : ops[j]? = some oj) (htj : T j ≠ 0) : ∀ {p : Plan} {m : Nat → Bool} {a : Act} {w : World}, okP ops T p false m = true → readyB ops m j = true → runP P ops C T need Q p a w →
    ∃ v p', SeesT P ops C (T j) oj v a ∧ okP ops T p' false (setm m j) = true ∧ runP P ops C T need Q p' (a.put oj.dst v) w
  | .done, m, a, w, hok, hr, h => by
    have h1 := readyB_not hr
    simp only [okP, Bool.not_false, Bool.true_and, List.all_eq_true, List.mem_range] at hok
    rw [hok j (Array.getElem?_eq_some_iff.1 hj).1] at h1
    cases h1
  | .ef i p, m, a, w, hok, hr, h => by
    simp only [okP, Bool.false_or, Bool.and_eq_true, frontB, List.all_eq_true, List.mem_range] at hok
    have := hok.1 j (Array.getElem?_eq_some_iff.1 hj).1
    simp only [hr, Bool.not_true, Bool.false_or, Bool.and_eq_true, beq_iff_eq] at this
    exact absurd this.1 htj
  | .alt p q, m, a, w, hok, hr, h => by
    simp only [okP, Bool.false_or, Bool.and_eq_true, frontB, List.all_eq_true, List.mem_range] at hok
    have := hok.1 j (Array.getElem?_eq_some_iff.1 hj).1
    simp only [hr, Bool.not_true, Bool.false_or, Bool.and_eq_true, beq_iff_eq] at this
    exact absurd this.1 htj
  | .bl i p, m, a, w, hok, hr, h => by
    simp only [okP, Bool.not_false, Bool.true_and, Bool.and_eq_true, bne_iff_ne] at hok
    obtain ⟨hri, hti, hokp⟩ := hok
    obtain ⟨oi, hoi, vi, hsi, h⟩ := h
    by_cases hij : i = j
    · subst hij
      rw [hoi] at hj
      injection hj with hj
      subst hj
      exact ⟨vi, p, hsi, hokp, h⟩
    · have hapij := hap m i j oi oj hij hti hri hr hoi hj
      obtain ⟨h1, h2, h3⟩ := Oper.apart_spec hapij
      obtain ⟨v, p', hsj, hp', ih⟩ := runP_blind hj htj hokp (readyB_setm hr (Ne.symm hij)) h
      rw [setm_comm] at hp'
      refine ⟨v, .bl i p', (Sees.put (fun cs b => hsel j oj cs b hj) h1).1 hsj, ?_, oi, hoi, vi, (Sees.put (fun cs b => hsel i oi cs b hoi) h3).2 hsi, ?_⟩
      · simp only [okP, Bool.not_false, Bool.true_and, Bool.and_eq_true, bne_iff_ne]
        exact ⟨readyB_setm hri hij, hti, hp'⟩
      · rw [← Act.put_comm a vi v h2]
        exact ih
end

theorem okP_in_ready {T : Nat → Nat} : ∀ {p : Plan} {m : Nat → Bool}, okP ops T p true m = true → ∃ j, readyB ops m j = true
  | .done, m, h => by simp [okP] at h
  | .bl _ _, m, h => by simp [okP] at h
  | .ef j p, m, h => by simp only [okP, Bool.true_or, Bool.true_and, Bool.and_eq_true] at h; exact ⟨j, h.1⟩
  | .alt p q, m, h => by simp only [okP, Bool.true_or, Bool.true_and, Bool.and_eq_true] at h; exact okP_in_ready h.1

theorem tree_any {Q' : Exit → Act → World → Prop} {T : Nat → Nat} (hB : apartB ops T = true) (hQ : ∀ a w, Q a w → Q' .normal a w) :
    ∀ (n : Nat) (L : List Nat) (listed : Array Bool) (p : Plan) (m : Nat → Bool) (a : Act) (w : World), L.length = n → L.Pairwise (· < ·) → (∀ i, i ∈ L ↔ i < ops.size ∧ listed.getD i true = false) → (∀ i, i < ops.size → m i = listed.getD i true) → listed.size = ops.size → Closed .any ops listed → ((∃ i, i < ops.size ∧ m i = false ∧ T i = 1) → C w) → okP ops T p false m = true → runP P ops C T (needB ops T) Q p a w →
      wpAny P .any ops Q' n listed a w := by
  simp only [apartB, Bool.and_eq_true, List.all_eq_true, List.mem_range] at hB
  obtain ⟨hsel0, hB⟩ := hB
  have hsel := Region.noSelect_spec hsel0
  have gd : ∀ (l : Array Bool) (i : Nat), i < l.size → l.getD i true = l.getD i false := fun l i hi => by simp [hi]
  have hwt : ∀ (m : Nat → Bool) (i j : Nat), readyB ops m i = true → readyB ops m j = true → waitsB .any ops j i = true → False := fun m i j hi hj hw => by
    have h1 := readyB_not hi
    obtain ⟨o, ho⟩ := readyB_some hj
    unfold readyB at hj
    simp only [ho, Option.map_some, Option.getD_some, Bool.and_eq_true, List.all_eq_true, Bool.or_eq_true, Bool.not_eq_true'] at hj
    simp only [waitsB, ho, Option.map_some, Option.getD_some, List.any_eq_true, Bool.and_eq_true, beq_iff_eq] at hw
    obtain ⟨e, he, hb, rfl⟩ := hw
    rcases hj.2 e he with h | h
    · rw [hb] at h; cases h
    · rw [h] at h1; cases h1
  have hap : ∀ (m : Nat → Bool) (i j : Nat) oi oj, i ≠ j → T i ≠ 0 → readyB ops m i = true → readyB ops m j = true → ops[i]? = some oi → ops[j]? = some oj → oi.apart ops oj = true := fun m i j oi oj hij ht hi hj hoi hoj => by
    have := (hB j (Array.getElem?_eq_some_iff.1 hoj).1).2 i (Array.getElem?_eq_some_iff.1 hoi).1
    simp only [Bool.or_eq_true, beq_iff_eq, hoi, hoj, Option.bind_some, Option.map_some, Option.getD_some] at this
    rcases this with (((h | h) | h) | h) | h
    · exact absurd h hij
    · exact absurd h ht
    · exact absurd h (fun h => hwt m i j hi hj h)
    · exact absurd h (fun h => hwt m j i hj hi h)
    · exact h
  intro n
  induction n with
  | zero =>
    intro L listed p m a w hn _ hL hm _ _ _ hok h
    have hL0 : L = [] := List.eq_nil_of_length_eq_zero hn
    subst hL0
    have hall : ∀ i, i < ops.size → m i = true := fun i hi => by
      rw [hm i hi]
      rcases hx : listed.getD i true with _ | _
      · exact absurd ((hL i).2 ⟨hi, hx⟩) (by simp)
      · rfl
    have hno : ∀ j, readyB ops m j = true → False := fun j hr => by
      obtain ⟨o, ho⟩ := readyB_some hr
      have h1 := readyB_not hr
      rw [hall j (Array.getElem?_eq_some_iff.1 ho).1] at h1
      cases h1
    refine ⟨?_, ?_⟩
    · rcases hr : Region.ready .any ops listed with _ | ⟨j, r⟩
      · rfl
      · have hj : j ∈ Region.ready .any ops listed := by rw [hr]; exact List.mem_cons_self ..
        obtain ⟨hu, o, ho, _⟩ := mem_ready.1 hj
        exact absurd ((hL j).2 ⟨(Array.getElem?_eq_some_iff.1 ho).1, hu⟩) (by simp)
    · cases p with
      | done => exact hQ _ _ h
      | bl j p => simp only [okP, Bool.and_eq_true] at hok; exact (hno j hok.2.1).elim
      | ef j p => simp only [okP, Bool.and_eq_true] at hok; exact (hno j hok.2.1).elim
      | alt p q => simp only [okP, Bool.and_eq_true] at hok; obtain ⟨j, hj⟩ := okP_in_ready hok.2.1; exact (hno j hj).elim
  | succ n ih =>
    intro L listed p m a w hn hP hL hm hsz hcl hC hok h
    refine ⟨fun hr => ?_, fun j hj => ?_⟩
    · match L, hn with
      | i :: L', _ =>
        exfalso
        obtain ⟨hi, hui⟩ := (hL i).1 (List.mem_cons_self ..)
        have : i ∈ Region.ready .any ops listed := by
          rw [mem_ready]
          refine ⟨hui, ops[i], Array.getElem?_eq_getElem hi, fun e he hb => ?_⟩
          have h1 := (hB i hi).1
          simp only [Array.getElem?_eq_getElem hi, Option.map_some, Option.getD_some, List.all_eq_true, Bool.or_eq_true, Bool.not_eq_true', decide_eq_true_eq] at h1
          have h2 := (h1 e (Array.mem_toList_iff.2 he)).resolve_left (by rw [hb]; simp)
          rcases hx : listed.getD e.on false with _ | _
          · have hmm : e.on ∈ i :: L' := (hL e.on).2 ⟨by omega, by rw [gd listed _ (by omega)]; exact hx⟩
            rcases List.mem_cons.1 hmm with he | he
            · omega
            · have := (List.pairwise_cons.1 hP).1 _ he
              omega
          · rfl
        rw [hr] at this
        cases this
    · obtain ⟨hu, oj, hoj, hall⟩ := mem_ready.1 hj
      have hjs : j < ops.size := (Array.getElem?_eq_some_iff.1 hoj).1
      have hjL : j ∈ L := (hL j).2 ⟨hjs, hu⟩
      have hrj : readyB ops m j = true := by
        unfold readyB
        rw [hm j hjs, hu]
        simp only [hoj, Option.map_some, Option.getD_some, Bool.not_false, Bool.true_and, List.all_eq_true, Bool.or_eq_true, Bool.not_eq_true']
        intro e he
        cases hb : Region.binds .any e with
        | false => exact .inl rfl
        | true =>
          right
          have h1 := hall e (Array.mem_toList_iff.1 he) hb
          have h2 := (hB j hjs).1
          simp only [hoj, Option.map_some, Option.getD_some, List.all_eq_true, Bool.or_eq_true, Bool.not_eq_true', decide_eq_true_eq] at h2
          have h3 := (h2 e he).resolve_left (by rw [hb]; simp)
          rw [hm e.on (by omega), gd listed e.on (by omega)]
          exact h1
      obtain ⟨L1, L2, rfl⟩ := List.append_of_mem hjL
      rw [List.pairwise_append] at hP
      obtain ⟨hP1, hP2, hP12⟩ := hP
      have hnd : j ∉ L1 ++ L2 := by
        intro hx
        rcases List.mem_append.1 hx with hx | hx
        · have := hP12 j hx j (List.mem_cons_self ..); omega
        · have := (List.pairwise_cons.1 hP2).1 j hx; omega
      have hnext : ∀ p' a' w', ((∃ i, i < ops.size ∧ setm m j i = false ∧ T i = 1) → C w') → okP ops T p' false (setm m j) = true → runP P ops C T (needB ops T) Q p' a' w' → wpAny P .any ops Q' n (listed.setIfInBounds j true) a' w' := fun p' a' w' hC' hok' hrun => by
        refine ih (L1 ++ L2) _ p' (setm m j) a' w' (by simp at hn ⊢; omega) ?_ (fun i => ?_) (fun i hi => ?_) (by simpa using hsz) (fun k o ho hk e he hb => ?_) hC' hok' hrun
        · rw [List.pairwise_append]
          exact ⟨hP1, (List.pairwise_cons.1 hP2).2, fun x hx y hy => hP12 x hx y (List.mem_cons_of_mem _ hy)⟩
        · by_cases hij : i = j
          · subst hij
            simp only [hnd, false_iff, not_and]
            intro _
            simp [show i < listed.size by omega]
          · rw [getD_set_ne true (Ne.symm hij), ← hL i]
            simp [hij]
        · by_cases hij : i = j
          · subst hij
            simp [setm, show i < listed.size by omega]
          · rw [getD_set_ne true (Ne.symm hij), ← hm i hi]
            simp [setm, hij]
        · by_cases hkj : k = j
          · subst hkj
            rw [hoj] at ho
            injection ho with ho
            subst ho
            exact getD_set_true (hall e he hb)
          · rw [getD_set_ne false (Ne.symm hkj)] at hk
            exact getD_set_true (hcl k o ho hk e he hb)
      refine wpOp_ofNoQ ?_
      by_cases htj : T j = 0
      · obtain ⟨p', hp', hw⟩ := runP_eff hsel hap hoj htj hok hrj h
        refine wpOp_mono (fun a' w' hk => hnext p' a' w' (fun ⟨i, hi, hmi, hti⟩ => hk.1 ?_) hp' hk.2) hw
        have hlj : ∀ i, i < ops.size → reachB .any ops (j + 1) j i = true → m i = true := fun i hi hr => by
          rw [hm i hi, gd listed i (by omega)]
          exact reach_listed hcl (j + 1) j i hr fun o ho e he hb => by
            rw [hoj] at ho
            injection ho with ho
            subst ho
            exact hall e he hb
        unfold needB
        rw [List.any_eq_true]
        refine ⟨i, List.mem_range.2 hi, ?_⟩
        rw [Bool.and_eq_true, beq_iff_eq]
        refine ⟨hti, ?_⟩
        cases hx : reachB .any ops (j + 1) j i with
        | false => rfl
        | true =>
          have := hlj i hi hx
          simp only [setm, this, Bool.or_true] at hmi
          cases hmi
      · obtain ⟨v, p', hs, hp', hrun⟩ := runP_blind hsel hap hoj htj hok hrj h
        have hcw : clsT C (T j) w := by
          intro h1
          exact hC ⟨j, hjs, readyB_not hrj, h1⟩
        exact wpOp_blind hoj hcw hs (hnext p' _ w (fun ⟨i, hi, hmi, hti⟩ => hC ⟨i, hi, by
          simp only [setm, Bool.or_eq_false_iff] at hmi; exact hmi.2, hti⟩) hp' hrun)

/-- a region that draws, its operations written out: ts says what they are (0: they act; 1: they look, in worlds of C; 2: they only compute) -/
theorem wp_region_tree {id : Nat} {Q : Exit → Act → World → Prop} {a : Act} {w : World} {l : List Oper} (C : World → Prop) (ts : List Nat) (pl : Plan) (hm : P.follows .mixedOrders = true) (hB : (apartB l.toArray (fun i => ts.getD i 0) && okP l.toArray (fun i => ts.getD i 0) pl false fun _ => false) = true) (hC : C w.drew)
    (h : runP P l.toArray C (fun i => ts.getD i 0) (needB l.toArray fun i => ts.getD i 0) (Q .normal) pl a w.drew) : (Code.region id l.toArray true).wp P Q a w := by
  refine wp_region_any hm ?_
  rw [Bool.and_eq_true] at hB
  have := tree_any (Q' := Q) hB.1 (fun _ _ h => h) l.length (List.range' 0 l.length) (Array.replicate l.toArray.size false) pl (fun _ => false) a w.drew (by simp) (List.pairwise_lt_range') (fun i => by
    simp [List.mem_range'_1]
    intro hi
    simp [hi]) (fun i hi => by simp at hi; simp [hi]) (by simp) (fun j o ho hl => by
    exfalso
    by_cases hj : j < l.length <;> simp [hj] at hl) (fun _ => hC) hB.2 h
  simpa using this

section
variable {l : List Oper} {T : Nat → Nat} {need : Nat → Bool} {j : Nat} {p : Plan} {o : Oper} {a : Act} {w : World}

theorem tree_done (h : Q a w) : runP P ops C T need Q .done a w := h

theorem tree_alt {q : Plan} (h1 : runP P ops C T need Q p a w) (h2 : runP P ops C T need Q q a w) : runP P ops C T need Q (.alt p q) a w := ⟨h1, h2⟩

theorem tree_look (k : Nat) (hk : T j = k) (ho : l[j]? = some o) (hw : Region.wanted o (yielded l.toArray a.tmps) = true) (hop : valueOp o.op = true) (d : Tmp) (hd : o.dst = some d) (hs : d < a.tmps.size)
    (h : ∀ K : Act → Prop, (∀ a', runP P l.toArray C T need Q p a' w → K a') → ∃ v, (∀ w', (k = 1 → C w') → ∀ K' : Act → World → Prop, K' (a.put o.dst v) w' → o.wp P a w' K' NoQ) ∧ K (a.put o.dst v)) : runP P l.toArray C T need Q (.bl j p) a w := by
  obtain ⟨v, hv, hm⟩ := h _ (fun _ h => h)
  subst hk
  refine ⟨o, by simpa using ho, v, .inl ⟨hw, fun w' hC => ?_⟩, hm⟩
  have h1 := hv w' hC (fun a' w'' => a' = a.put o.dst v ∧ w'' = w') ⟨rfl, rfl⟩
  unfold Oper.wp at h1
  cases hr : (execOp a.eval o).run P w' with
  | ok n w1 =>
    obtain ⟨u, rfl⟩ := value_of_run hop hr
    rw [hr] at h1
    simp only [Oper.upon] at h1
    obtain ⟨h2, rfl⟩ := h1
    have h3 := congrArg (fun x : Act => x.tmps[d]?) h2
    simp only [hd, Act.put, Array.getElem?_setIfInBounds_self_of_lt hs, Option.some.injEq] at h3
    rw [h3]
  | halt x w1 =>
    rw [hr] at h1
    cases x <;> simp only [Oper.upon] at h1 <;> exact absurd h1 id
/-- a look, in worlds of C -/
theorem tree_b (hk : T j = 1) (ho : l[j]? = some o) (hw : Region.wanted o (yielded l.toArray a.tmps) = true) (hop : valueOp o.op = true) (d : Tmp) (hd : o.dst = some d) (hs : d < a.tmps.size)
    (h : ∀ K : Act → Prop, (∀ a', runP P l.toArray C T need Q p a' w → K a') → ∃ v, (∀ w', C w' → ∀ K' : Act → World → Prop, K' (a.put o.dst v) w' → o.wp P a w' K' NoQ) ∧ K (a.put o.dst v)) : runP P l.toArray C T need Q (.bl j p) a w :=
  tree_look 1 hk ho hw hop d hd hs fun K hK => let ⟨v, h1, h2⟩ := h K hK; ⟨v, fun w' hC => h1 w' (hC rfl), h2⟩
/-- what only computes -/
theorem tree_p (hk : T j = 2) (ho : l[j]? = some o) (hw : Region.wanted o (yielded l.toArray a.tmps) = true) (hop : valueOp o.op = true) (d : Tmp) (hd : o.dst = some d) (hs : d < a.tmps.size)
    (h : ∀ K : Act → Prop, (∀ a', runP P l.toArray C T need Q p a' w → K a') → ∃ v, (∀ w', ∀ K' : Act → World → Prop, K' (a.put o.dst v) w' → o.wp P a w' K' NoQ) ∧ K (a.put o.dst v)) : runP P l.toArray C T need Q (.bl j p) a w :=
  tree_look 2 hk ho hw hop d hd hs fun K hK => let ⟨v, h1, h2⟩ := h K hK; ⟨v, fun w' _ => h1 w', h2⟩

theorem tree_skip (ho : l[j]? = some o) (hw : Region.wanted o (yielded l.toArray a.tmps) = false) (h : runP P l.toArray C T need Q p (a.put o.dst undef) w) : runP P l.toArray C T need Q (.bl j p) a w :=
  ⟨o, by simpa using ho, undef, .inr ⟨hw, rfl⟩, h⟩

/-- what acts -/
theorem tree_e (ho : l[j]? = some o) (hw : Region.wanted o (yielded l.toArray a.tmps) = true) (h : ∀ K : Act → World → Prop, (∀ a' w', C w' → runP P l.toArray C T need Q p a' w' → K a' w') → o.wp P a w K NoQ) : runP P l.toArray C T need Q (.ef j p) a w := by
  have h1 : l.toArray[j]? = some o := by simpa using ho
  unfold runP
  rw [wpOp_noQ h1, if_pos hw]
  exact h _ fun a' w' hC hm => ⟨(fun _ => hC), hm⟩
/-- what acts, behind all looks -/
theorem tree_e0 (hn : need j = false) (ho : l[j]? = some o) (hw : Region.wanted o (yielded l.toArray a.tmps) = true) (h : ∀ K : Act → World → Prop, (∀ a' w', True → runP P l.toArray C T need Q p a' w' → K a' w') → o.wp P a w K NoQ) : runP P l.toArray C T need Q (.ef j p) a w := by
  have h1 : l.toArray[j]? = some o := by simpa using ho
  unfold runP
  rw [wpOp_noQ h1, if_pos hw]
  exact h _ fun a' w' _ hm => ⟨(fun h => by rw [hn] at h; cases h), hm⟩

theorem tree_eskip (hC : need j = true → C w) (ho : l[j]? = some o) (hw : Region.wanted o (yielded l.toArray a.tmps) = false) (h : runP P l.toArray C T need Q p (a.put o.dst undef) w) : runP P l.toArray C T need Q (.ef j p) a w := by
  have h1 : l.toArray[j]? = some o := by simpa using ho
  unfold runP
  rw [wpOp_noQ h1, if_neg (by simp [hw])]
  exact ⟨hC, h⟩

theorem tree_eskip0 (hn : need j = false) (ho : l[j]? = some o) (hw : Region.wanted o (yielded l.toArray a.tmps) = false) (h : runP P l.toArray C T need Q p (a.put o.dst undef) w) : runP P l.toArray C T need Q (.ef j p) a w :=
  tree_eskip (fun h => by rw [hn] at h; cases h) ho hw h
end

end Go.Bl
