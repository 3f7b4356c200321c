/- Contracts of functions that this seat's laws reach, each: what one call returns and what it leaves in memory; no condition beyond each theorem's own hypotheses. -/
import Derived.WalkKit
import Derived.WalkSpells
import Derived.WalkLawsBesides
import Derived.Deep.QuietTactic
import Derived.BigQuiet
import Derived.Deep.AppendLies
import Derived.Deep.Draws
set_option linter.unusedVariables false
set_option linter.unusedSimpArgs false
namespace Go.Bl
open Go.RowKit

theorem ret_int {k : IntKind} {a b : Int} (h : a = b) : Ending.returned (.int k a) = .returned (.int k b) := by rw [h]
theorem ret_bool {a b : Bool} (h : a = b) : Ending.returned (.bool a) = .returned (.bool b) := by rw [h]
theorem hide {p : Prop} (h : p) : Hid p := h
theorem i64_in {n : Int} (h : -9223372036854775808 ≤ n ∧ n ≤ 9223372036854775807) : wrap64 n = n := IntWalk.wrap64_in n h

theorem tmod_pos {x n : Int} (h : 0 ≤ x.tmod n) (hn : 1 ≤ n) : x.tmod n = x % n := by
  rcases Int.le_total 0 x with hx | hx
  · exact Int.tmod_eq_emod_of_nonneg hx
  · have h1 : x.tmod n = -((-x).tmod n) := by rw [Int.neg_tmod, Int.neg_neg]
    have h2 : (-x).tmod n = (-x) % n := Int.tmod_eq_emod_of_nonneg (by omega)
    have h3 : 0 ≤ (-x) % n := Int.emod_nonneg _ (by omega)
    have h4 : (-x) % n = 0 := by omega
    have h5 : n ∣ x := (Int.dvd_neg).1 (Int.dvd_of_emod_eq_zero h4)
    rw [Int.emod_eq_zero_of_dvd h5]; omega
theorem tmod_neg {x n : Int} (h : x.tmod n < 0) (hn : 1 ≤ n) : x.tmod n + n = x % n := by
  rcases Int.le_total 0 x with hx | hx
  · have h1 := Int.emod_nonneg x (show n ≠ 0 by omega)
    rw [Int.tmod_eq_emod_of_nonneg hx] at h
    exact absurd h (Int.not_lt.2 h1)
  · have h1 : x.tmod n = -((-x).tmod n) := by rw [Int.neg_tmod, Int.neg_neg]
    have h2 : (-x).tmod n = (-x) % n := Int.tmod_eq_emod_of_nonneg (by omega)
    rw [h1, h2] at h ⊢
    have h3 : (-x) % n < n := Int.emod_lt_of_pos _ (by omega)
    have h4 := Int.emod_add_mul_ediv (-x) n
    generalize (-x) % n = r at *
    generalize (-x) / n = q at *
    have h5 : x = (n - r) + n * (-q - 1) := by
      have e : n * (-q - 1) = -(n * q) - n := by rw [Int.mul_sub, Int.mul_neg, Int.mul_one]
      rw [e]; omega
    have h6 : ((n - r) + n * (-q - 1)) % n = n - r := by
      rw [Int.add_mul_emod_self_left]; exact Int.emod_eq_of_lt (by omega) (by omega)
    rw [← h5] at h6
    rw [h6]; omega
theorem tmod_bd (x : Int) {n : Int} (hn : 1 ≤ n) : -n ≤ x.tmod n ∧ x.tmod n < n := by
  have h2 := Int.emod_nonneg x (show n ≠ 0 by omega)
  have h3 := Int.emod_lt_of_pos x (show 0 < n by omega)
  rcases Int.lt_or_le (x.tmod n) 0 with h | h
  · have h1 := tmod_neg h hn
    rw [← h1] at h2 h3; omega
  · have h1 := tmod_pos h hn
    generalize x % n = r at *; omega

theorem block_of_add (a : Addr) (n : Nat) : (a.add n).block = a.block := by unfold Addr.add; split <;> rfl
theorem add_of_add (a : Addr) (i j : Nat) : (a.add i).add j = a.add (i + j) := by
  unfold Addr.add
  by_cases hi : i = 0 <;> by_cases hj : j = 0 <;> simp [hi, hj, Nat.add_assoc]

/-! ## the frame of a step: all blocks but one are as they were -/
section
variable {w w1 w2 : World} {r : Option Nat}
theorem gr_trans (h : w.grownBy w1 r) (k : w1.grownBy w2 r) : w.grownBy w2 r :=
  ⟨k.os.trans h.os, k.tape.trans h.tape, k.output.trans h.output, Nat.le_trans h.size k.size, fun i hi hr => (k.block i (Nat.lt_of_lt_of_le hi h.size) hr).trans (h.block i hi hr)⟩
theorem gr_new {g : Nat} (h : w.grownBy w1 r) (k : w1.grownBy w2 (some g)) (hg : w.heap.size ≤ g) : w.grownBy w2 r :=
  ⟨k.os.trans h.os, k.tape.trans h.tape, k.output.trans h.output, Nat.le_trans h.size k.size, fun i hi hr => (k.block i (Nat.lt_of_lt_of_le hi h.size) (fun e => by injection e with e; omega)).trans (h.block i hi hr)⟩
theorem gr_row {q : Option Nat} (h : w.grownBy w1 r) (k : w1.grownBy w2 q) (hg : ∀ g, q = some g → w.heap.size ≤ g) : w.grownBy w2 r := by
  rcases q with _ | g
  · exact ⟨k.os.trans h.os, k.tape.trans h.tape, k.output.trans h.output, Nat.le_trans h.size k.size, fun i hi hr => (k.block i (Nat.lt_of_lt_of_le hi h.size) (fun e => by cases e)).trans (h.block i hi hr)⟩
  · exact gr_new h k (hg g rfl)
theorem gr_any (h : w.grownBy w1 none) : w.grownBy w1 r := ⟨h.os, h.tape, h.output, h.size, fun i hi _ => h.block i hi (fun e => by cases e)⟩
theorem gr_step (h : w.grownBy w1 r) (k : w1.grownBy w2 none) : w.grownBy w2 r := gr_trans h (gr_any k)
theorem gr_drewN (h : w.grownBy w1 r) (n : Nat) : w.grownBy (w1.drewN n) r := ⟨h.os, h.tape, h.output, h.size, h.block⟩
theorem gr_drew (h : w.grownBy w1 r) : w.grownBy w1.drew r := ⟨h.os, h.tape, h.output, h.size, h.block⟩
theorem gr_alloc (h : w.grownBy w1 r) (o : Obj) : w.grownBy (w1.alloc o) r := gr_step h (World.grownBy_alloc w1 o none)
theorem gr_set {p : Addr} (h : w.grownBy w1 r) (hp : some p.block = r ∨ w.heap.size ≤ p.block) (u : Value) : w.grownBy (w1.setCell p u) r :=
  ⟨h.os, h.tape, h.output, by simpa [World.setCell] using h.size, fun i hi hr => (Below.heap_setCell w1 p u i (by
    rintro rfl
    rcases hp with hp | hp
    · exact hr hp
    · omega)).trans (h.block i hi hr)⟩
theorem gr_below (h : Below w.heap.size w w1) : w.grownBy w1 r := ⟨h.os, h.tape, h.output, h.size, fun i hi _ => h.block i hi⟩
theorem below_gr (h : w.grownBy w1 none) : Below w.heap.size w w1 := ⟨h.os, h.tape, h.output, h.size, fun i hi => h.block i hi (fun e => by cases e)⟩
theorem gr_cell (h : w.grownBy w1 r) {p : Addr} {v : Value} (hc : w.cell? p = some v) (hne : r ≠ some p.block) : w1.cell? p = some v := h.cell hc (fun e => hne e.symm)
end

/-! ## data in memory -/
class Enc (α : Type) where
  sz : Nat
  rep : World → Nat → α → List Value → Prop
  len : ∀ {w lo x cs}, rep w lo x cs → cs.length = sz
  one : ∀ {w lo x cs}, rep w lo x cs → ∀ u ∈ cs, u.oneCell' = true
  keep : ∀ {w w' lo x cs}, rep w lo x cs → (∀ p : Addr, lo ≤ p.block → p.block < w.heap.size → w'.cell? p = w.cell? p) → rep w' lo x cs
  mono : ∀ {w lo lo' x cs}, rep w lo x cs → lo' ≤ lo → rep w lo' x cs

instance : Enc Int where
  sz := 1
  rep := fun _ _ x cs => cs = [.int .i64 x]
  len := by rintro w lo x cs rfl; rfl
  one := by rintro w lo x cs rfl u hu; simp at hu; subst hu; rfl
  keep := fun h _ => h
  mono := fun h _ => h

section
variable {α : Type} [Enc α]
def Row (w : World) (lo : Nat) : List α → List Value → Prop
  | [], cs => cs = []
  | x :: l, cs => ∃ c1 c2, cs = c1 ++ c2 ∧ Enc.rep w lo x c1 ∧ Row w lo l c2
variable {w w' : World} {lo lo' : Nat} {l l' : List α} {cs cs' : List Value} {A : Option Addr} {c : Nat} {e : TypeId}
theorem Row.len (h : Row w lo l cs) : cs.length = l.length * Enc.sz α := by
  induction l generalizing cs with
  | nil => simp [show cs = [] from h]
  | cons x l ih =>
    obtain ⟨c1, c2, rfl, h1, h2⟩ := h
    rw [List.length_append, Enc.len h1, ih h2, List.length_cons, Nat.add_mul, Nat.one_mul, Nat.add_comm]
theorem Row.one (h : Row w lo l cs) : ∀ u ∈ cs, u.oneCell' = true := by
  induction l generalizing cs with
  | nil => simp [show cs = [] from h]
  | cons x l ih =>
    obtain ⟨c1, c2, rfl, h1, h2⟩ := h
    intro u hu
    rcases List.mem_append.1 hu with hu | hu
    · exact Enc.one h1 u hu
    · exact ih h2 u hu
theorem Row.keep (h : Row w lo l cs) (hk : ∀ p : Addr, lo ≤ p.block → p.block < w.heap.size → w'.cell? p = w.cell? p) : Row w' lo l cs := by
  induction l generalizing cs with
  | nil => exact h
  | cons x l ih =>
    obtain ⟨c1, c2, rfl, h1, h2⟩ := h
    exact ⟨c1, c2, rfl, Enc.keep h1 hk, ih h2⟩
theorem Row.mono (h : Row w lo l cs) (hl : lo' ≤ lo) : Row w lo' l cs := by
  induction l generalizing cs with
  | nil => exact h
  | cons x l ih =>
    obtain ⟨c1, c2, rfl, h1, h2⟩ := h
    exact ⟨c1, c2, rfl, Enc.mono h1 hl, ih h2⟩
theorem Row.append (h : Row w lo l cs) (h' : Row w lo l' cs') : Row w lo (l ++ l') (cs ++ cs') := by
  induction l generalizing cs with
  | nil => simpa [show cs = [] from h] using h'
  | cons x l ih =>
    obtain ⟨c1, c2, rfl, h1, h2⟩ := h
    exact ⟨c1, c2 ++ cs', by simp, h1, ih h2⟩
theorem Row.single {x : α} (h : Enc.rep w lo x cs) : Row w lo [x] cs := ⟨cs, [], by simp, h, rfl⟩
theorem Row.at_ (h : Row w lo l cs) {k : Nat} (hk : k < l.length) : ∃ c1, Enc.rep w lo l[k] c1 ∧ ∀ j u, c1[j]? = some u → cs[k * Enc.sz α + j]? = some u := by
  induction l generalizing cs k with
  | nil => simp at hk
  | cons x l ih =>
    obtain ⟨c1, c2, rfl, h1, h2⟩ := h
    cases k with
    | zero => exact ⟨c1, h1, fun j u hu => by
        rw [Nat.zero_mul, Nat.zero_add, List.getElem?_append_left (List.getElem?_eq_some_iff.1 hu).1]; exact hu⟩
    | succ k =>
      obtain ⟨c3, h3, h4⟩ := ih h2 (k := k) (by simpa using hk)
      refine ⟨c3, h3, fun j u hu => ?_⟩
      have := Enc.len h1
      rw [List.getElem?_append_right (by rw [this, Nat.add_mul]; omega), ← h4 j u hu]
      congr 1
      rw [this, Nat.add_mul]; omega
theorem Row.take (h : Row w lo l cs) (k : Nat) : Row w lo (l.take k) (cs.take (k * Enc.sz α)) := by
  induction l generalizing cs k with
  | nil => simp [show cs = [] from h]; rfl
  | cons x l ih =>
    obtain ⟨c1, c2, rfl, h1, h2⟩ := h
    cases k with
    | zero => simp; rfl
    | succ k =>
      have := Enc.len h1
      refine ⟨c1, c2.take (k * Enc.sz α), ?_, h1, ih h2 k⟩
      rw [List.take_append, List.take_of_length_le (by rw [this, Nat.add_mul]; omega)]
      congr 2
      rw [this, Nat.add_mul]; omega
theorem Row.drop (h : Row w lo l cs) (k : Nat) : Row w lo (l.drop k) (cs.drop (k * Enc.sz α)) := by
  induction l generalizing cs k with
  | nil => simp [show cs = [] from h]; rfl
  | cons x l ih =>
    obtain ⟨c1, c2, rfl, h1, h2⟩ := h
    cases k with
    | zero => simpa using ⟨c1, c2, rfl, h1, h2⟩
    | succ k =>
      have := Enc.len h1
      have e : (k + 1) * Enc.sz α - c1.length = k * Enc.sz α := by rw [this, Nat.add_mul]; omega
      have e1 : c1.drop ((k + 1) * Enc.sz α) = [] := List.drop_of_length_le (by rw [this, Nat.add_mul]; omega)
      rw [List.drop_append, e, e1, List.nil_append, List.drop_succ_cons]
      exact ih h2 k

/-- cells that lie one behind the other -/
def Lies (w : World) (lo : Nat) (A : Option Addr) (cs : List Value) : Prop :=
  cs ≠ [] → ∃ ad, A = some ad ∧ lo ≤ ad.block ∧ ∀ j u, cs[j]? = some u → w.cell? (ad.add j) = some u
/-- a slice reads as a list (its blocks from lo on) -/
def Sl (w : World) (lo : Nat) (A : Option Addr) (l : List α) : Prop := l.length ≤ maxLen ∧ ∃ cs, Row w lo l cs ∧ Lies w lo A cs
/-- a slice that is one's own: it may be written and appended to -/
def Own (w : World) (lo : Nat) (e : TypeId) (A : Option Addr) (c : Nat) (l : List α) : Prop :=
  l.length ≤ maxLen ∧ ∃ cs, Row w lo l cs ∧ w.ownsRow lo e (Enc.sz α) (.slice A l.length c) l.length cs
theorem cell_lt {w : World} {p : Addr} {u : Value} (h : w.cell? p = some u) : p.block < w.heap.size := World.block_lt_of_cell? w p h

theorem Sl.keep (h : Sl w lo A l) (hk : ∀ p : Addr, lo ≤ p.block → p.block < w.heap.size → w'.cell? p = w.cell? p) : Sl w' lo A l := by
  obtain ⟨hm, cs, hr, hl⟩ := h
  refine ⟨hm, cs, hr.keep hk, fun hne => ?_⟩
  obtain ⟨ad, e, hb, hc⟩ := hl hne
  exact ⟨ad, e, hb, fun j u hu => (hk _ (by rw [block_of_add]; exact hb) (cell_lt (hc j u hu))).trans (hc j u hu)⟩
theorem Sl.gr {r : Option Nat} (h : Sl w lo A l) (hg : w.grownBy w' r) (hr : ∀ g, r = some g → g < lo) : Sl w' lo A l :=
  h.keep fun p hp hs => World.cell?_of_block (hg.block p.block hs (fun e => by have := hr _ e.symm; omega))
theorem Sl.pure (h : Sl w lo A l) (hg : w.grownBy w' none) : Sl w' lo A l := h.gr hg (fun g e => by cases e)
theorem Sl.mono (h : Sl w lo A l) (hl : lo' ≤ lo) : Sl w lo' A l := by
  obtain ⟨hm, cs, hr, hc⟩ := h
  exact ⟨hm, cs, hr.mono hl, fun hne => let ⟨ad, e, hb, h⟩ := hc hne; ⟨ad, e, by omega, h⟩⟩
theorem Sl.nil : Sl w lo A ([] : List α) := ⟨by simp [maxLen], [], rfl, fun h => absurd rfl h⟩
theorem cell_plain {w : World} {p : Addr} {u : Value} (h : w.cell? p = some u) : p = ⟨p.block, p.off, none⟩ := by
  unfold World.cell? at h
  split at h
  · split at h
    · cases h
    · rename_i hs
      obtain ⟨b, o, s⟩ := p
      cases s <;> simp_all
  · cases h
theorem Sl.at_ (h : Sl w lo A l) (hs : 0 < Enc.sz α) {k : Nat} (hk : k < l.length) : ∃ g o c1, A = some ⟨g, o, none⟩ ∧ lo ≤ g ∧ g < w.heap.size ∧ Enc.rep w lo l[k] c1 ∧ ∀ j u, c1[j]? = some u → w.cell? ⟨g, o + k * Enc.sz α + j, none⟩ = some u := by
  obtain ⟨hm, cs, hr, hc⟩ := h
  obtain ⟨c1, h1, h2⟩ := hr.at_ hk
  have h0 : 0 < c1.length := by rw [Enc.len h1]; exact hs
  have hx := h2 0 _ (List.getElem?_eq_getElem h0)
  have hne : cs ≠ [] := by rintro rfl; simp at hx
  obtain ⟨ad, e, hb, h3⟩ := hc hne
  have h4 := cell_lt (h3 _ _ hx)
  rw [block_of_add] at h4
  have hp := cell_plain (h3 0 _ (List.getElem?_eq_getElem (List.length_pos_iff.2 hne)))
  have e0 : ad.add 0 = ad := rfl
  rw [e0] at hp
  obtain ⟨g, o, s⟩ := ad
  simp only [Addr.mk.injEq, true_and] at hp
  subst hp
  refine ⟨g, o, c1, e, hb, h4, h1, fun j u hu => ?_⟩
  have := h3 _ u (h2 j u hu)
  rwa [Addr.add_lit, ← Nat.add_assoc] at this
theorem Own.sl (h : Own w lo e A c l) : Sl w lo A l := by
  obtain ⟨hm, cs, hr, ho⟩ := h
  refine ⟨hm, cs, hr, fun hne => ?_⟩
  rcases ho.2 with ⟨h1, h2⟩ | ⟨g, cap, cur, hv, hb, hrest⟩
  · exact absurd (List.eq_nil_of_length_eq_zero (by have := ho.1; rw [h2, Nat.zero_mul] at this; exact this)) hne
  · injection hv with hA _ _
    subst hA
    exact ⟨_, rfl, hb, ho.cells (g := g) rfl⟩
theorem Own.keep (h : Own w lo e A c l) {r : Option Nat} (hg : w.grownBy w' r) (hr : ∀ g, r = some g → g < lo) : Own w' lo e A c l := by
  obtain ⟨hm, cs, hrow, ho⟩ := h
  refine ⟨hm, cs, hrow.keep fun p hp hs => World.cell?_of_block (hg.block p.block hs (fun e => by have := hr _ e.symm; omega)), ho.kept hg ?_⟩
  rcases hb : Value.ownBlock (.slice A l.length c) with _ | g
  · exact .inl rfl
  · refine .inr fun e => ?_
    have h1 := ho.lt g hb
    have h2 := hr g e.symm
    omega
theorem Own.pure (h : Own w lo e A c l) (hg : w.grownBy w' none) : Own w' lo e A c l := h.keep hg (fun g e => by cases e)
end

/-! ## the stream: block b holds the slice L and the count; L lies below b -/
def Strm (w : World) (b : Nat) (N : Int) : Prop := ∃ (A : Option Addr) (n c : Nat) (k : Int),
  w.cell? ⟨b, 0, none⟩ = some (.slice A n c) ∧ w.cell? ⟨b, 1, none⟩ = some (.int .i64 k) ∧ w.frozen? ⟨b, 1, none⟩ = false ∧ 0 ≤ k ∧ k ≤ N ∧ n ≤ maxLen ∧
  (∀ i, i < n → ∃ ad z, A = some ad ∧ ad.block < b ∧ w.cell? (ad.add i) = some (.int .i64 z))

theorem Strm.lt {w : World} {b : Nat} {N : Int} (h : Strm w b N) : b < w.heap.size := by
  obtain ⟨A, n, c, k, h0, _⟩ := h
  exact cell_lt h0

theorem Strm.gr {w w' : World} {b : Nat} {N : Int} {r : Option Nat} (h : Strm w b N) (hg : w.grownBy w' r) (hr : ∀ g, r = some g → b < g) : Strm w' b N := by
  have hlt := h.lt
  obtain ⟨A, n, c, k, h0, h1, hf, hk0, hkN, hn, hel⟩ := h
  have hne : ∀ x, x ≤ b → some x ≠ r := fun x hx e => by have := hr x e.symm; omega
  refine ⟨A, n, c, k, hg.cell h0 (hne _ (Nat.le_refl _)), hg.cell h1 (hne _ (Nat.le_refl _)), ?_, hk0, hkN, hn, fun i hi => ?_⟩
  · rw [World.frozen?_of_block (hg.block b hlt (hne _ (Nat.le_refl _)))]; exact hf
  · obtain ⟨ad, z, e, hb, hc⟩ := hel i hi
    exact ⟨ad, z, e, hb, hg.cell hc (by rw [block_of_add]; exact hne _ (Nat.le_of_lt hb))⟩

theorem Strm.pure {w w' : World} {b : Nat} {N : Int} (h : Strm w b N) (hg : w.grownBy w' none) : Strm w' b N := h.gr hg (fun g e => by cases e)

theorem Strm.mono {w : World} {b : Nat} {N N' : Int} (h : Strm w b N) (hN : N ≤ N') : Strm w b N' := by
  obtain ⟨A, n, c, k, h0, h1, hf, hk0, hkN, hn, hel⟩ := h
  exact ⟨A, n, c, k, h0, h1, hf, hk0, by omega, hn, hel⟩

theorem Strm.set_ {w : World} {b : Nat} {N : Int} {k : Int} (h : Strm w b N) (h0 : 0 ≤ k) (hk : k ≤ N + 1) : Strm (w.setCell ⟨b, 1, none⟩ (.int .i64 k)) b (N + 1) := by
  obtain ⟨A, n, c, k', c0, c1, hf, hk0, hkN, hn, hel⟩ := h
  refine ⟨A, n, c, k, ?_, ?_, ?_, h0, hk, hn, fun i hi => ?_⟩
  · exact (World.cell?_setCell_other w ⟨b, 1, none⟩ ⟨b, 0, none⟩ _ (by simp)).trans c0
  · exact World.cell?_setCell_same w _ _ c1
  · rw [World.frozen?_setCell]; exact hf
  · obtain ⟨ad, z, e, hb, hc⟩ := hel i hi
    exact ⟨ad, z, e, hb, (World.cell?_setCell_other w ⟨b, 1, none⟩ (ad.add i) _ (fun e => by
      have := congrArg Addr.block e; rw [block_of_add] at this; simp at this; omega)).trans hc⟩

/-- what a step of the stream leaves -/
def SOut (b : Nat) (N : Int) (w w' : World) : Prop := w.grownBy w' (some b) ∧ Strm w' b N

theorem sl_lit {α : Type} [Enc α] (w : World) (lo : Nat) (cs : List Value) (t : TypeId) (l : List α) (hlo : lo ≤ w.heap.size) (hm : l.length ≤ maxLen) (hr : Row (w.alloc (.cells cs.toArray t)) lo l cs) :
    Sl (w.alloc (.cells cs.toArray t)) lo (some ⟨w.heap.size, 0, none⟩) l := by
  refine ⟨hm, cs, hr, fun _ => ⟨_, rfl, hlo, fun j u hu => ?_⟩⟩
  rw [Addr.add_lit, cell_of_row _ w.heap.size _ cs.toArray t (0, 0) (heap_alloc_new w _)]
  simpa using hu

theorem row_ints (w : World) (lo : Nat) (l : List Int) : Row w lo l (l.map (Value.int .i64)) := by
  induction l with
  | nil => rfl
  | cons x l ih => exact ⟨[.int .i64 x], _, rfl, rfl, ih⟩

theorem sl_ints (w : World) (lo : Nat) (t : TypeId) (l : List Int) (hlo : lo ≤ w.heap.size) (hm : l.length ≤ maxLen) :
    Sl (w.alloc (.cells (l.map (Value.int .i64)).toArray t)) lo (some ⟨w.heap.size, 0, none⟩) l := sl_lit w lo _ t l hlo hm (row_ints _ lo l)

/-! ## appending to a slice of one's own -/
/-- only blocks from lo on have turned -/
def Upd (lo : Nat) (w w' : World) : Prop := ∃ r, w.grownBy w' r ∧ ∀ g, r = some g → lo ≤ g

theorem Upd.gr {lo : Nat} {w0 w w' : World} {r : Option Nat} (h : Upd lo w w') (h0 : w0.heap.size ≤ lo) (hg : w0.grownBy w r) : w0.grownBy w' r := by
  obtain ⟨q, hq, hl⟩ := h
  exact gr_row hg hq (fun g e => Nat.le_trans h0 (hl g e))

theorem Upd.strm {lo b : Nat} {w w' : World} {N : Int} (h : Upd lo w w') (hb : b < lo) (hs : Strm w b N) : Strm w' b N := by
  obtain ⟨q, hq, hl⟩ := h
  exact hs.gr hq (fun g e => Nat.lt_of_lt_of_le hb (hl g e))

theorem Upd.size {lo : Nat} {w w' : World} (h : Upd lo w w') : w.heap.size ≤ w'.heap.size := by
  obtain ⟨q, hq, _⟩ := h
  exact hq.size

theorem Upd.sl {α : Type} [Enc α] {lo lo2 : Nat} {w0 w w' : World} {A : Option Addr} {l : List α} {r : Option Nat} (h : Upd lo w w') (hs : Sl w0 lo2 A l) (h0 : w0.heap.size ≤ lo) (hg : w0.grownBy w r) (hr : ∀ g, r = some g → g < lo2) : Sl w' lo2 A l :=
  hs.gr (h.gr h0 hg) hr

/-- own slices of one-level elements (ints, structs of these): appending leaves the elements -/
class Flat (α : Type) [Enc α] : Prop where
  flat : ∀ {w w' : World} {lo lo' : Nat} {x : α} {cs : List Value}, Enc.rep w lo x cs → Enc.rep w' lo' x cs
  pos : 0 < Enc.sz α

theorem Row.flat {α : Type} [Enc α] [Flat α] {w w' : World} {lo lo' : Nat} {l : List α} {cs : List Value} (h : Row w lo l cs) : Row w' lo' l cs := by
  induction l generalizing cs with
  | nil => exact h
  | cons x l ih =>
    obtain ⟨c1, c2, rfl, h1, h2⟩ := h
    exact ⟨c1, c2, rfl, Flat.flat h1, ih h2⟩

instance : Flat Int := ⟨fun h => h, by decide⟩

theorem Own.nil {α : Type} [Enc α] (w : World) (lo : Nat) (e : TypeId) : Own w lo e none 0 ([] : List α) :=
  ⟨by simp [maxLen], [], rfl, World.ownsRow_nil w lo e _⟩

theorem Own.shape {α : Type} [Enc α] {w : World} {lo : Nat} {e : TypeId} {A : Option Addr} {c : Nat} {l : List α} (h : Own w lo e A c l) (hl : 0 < l.length) : ∃ g, A = some ⟨g, 0, none⟩ ∧ lo ≤ g ∧ g < w.heap.size := by
  obtain ⟨_, cs, _, ho⟩ := h
  rcases ho.2 with ⟨h1, h2⟩ | ⟨g, cap, cur, hv, hb, hh, _⟩
  · omega
  · injection hv with hA _ _
    exact ⟨g, hA, hb, (Array.getElem?_eq_some_iff.1 hh).1⟩

section
variable {P : Program} {α : Type} [Enc α] [Flat α]
theorem run_push (w : World) (lo : Nat) (t ty e : TypeId) (i : TypeInfo) (z : Value) (bytes : Nat) (ht : P.underlying t = some (.slice e)) (hi : P.info? e = some i) (hz : i.zero = some z)
    (hsize : i.size = Enc.sz α) (hby : i.bytes = bytes) (hzs : z.cells.size = Enc.sz α)
    (A : Option Addr) (c : Nat) (l : List α) (hown : Own w lo e A c l) (lo2 : Nat) (ad : Addr) (cc : Nat) (l2 : List α) (hsl : Sl w lo2 (some ad) l2)
    (hbytes : (l.length + l2.length) * bytes ≤ 140737488355328) (h63 : l.length + l2.length ≤ maxLen) (hbase : lo ≤ w.heap.size) :
    ∃ A' c' w', (Builtin.append_ #[t, t] ty #[.slice A l.length c, .slice (some ad) l2.length cc]).run P w = .ok (.slice A' (l ++ l2).length c') w' ∧ Own w' lo e A' c' (l ++ l2) ∧ Upd lo w w' := by
  obtain ⟨hm, cs, hr, ho⟩ := hown
  obtain ⟨hm2, cs2, hr2, hl2⟩ := hsl
  have hlen2 : cs2.length = l2.length * Enc.sz α := hr2.len
  have hnews : ∀ j u, cs2[j]? = some u → w.cell? (ad.add j) = some u := fun j u hu => by
    obtain ⟨ad', h1, _, h3⟩ := hl2 (by rintro rfl; simp at hu)
    injection h1 with h1
    subst h1
    exact h3 j u hu
  obtain ⟨v', w', hrun, ho', hg, _⟩ := run_append_own (P := P) w lo t ty e i z (Enc.sz α) bytes ht hi hz hsize hby hzs Flat.pos _ _ cs ho ad l2.length cc cs2 hlen2 hnews hr2.one h63 hbytes hbase
  have hup : Upd lo w w' := ⟨_, hg, fun g hgg => (ho.lt g hgg).1⟩
  have hlen : (l ++ l2).length = l.length + l2.length := List.length_append
  rcases ho'.2 with ⟨rfl, h0⟩ | ⟨g, cap, cur, rfl, rest⟩
  · refine ⟨none, 0, w', ?_, ⟨by omega, cs ++ cs2, (hr.flat).append (hr2.flat), ?_⟩, hup⟩
    · rw [hrun, hlen, h0]
    · rw [hlen, h0] at *
      exact ho'
  · refine ⟨some ⟨g, 0, none⟩, cap, w', ?_, ⟨by omega, cs ++ cs2, (hr.flat).append (hr2.flat), ?_⟩, hup⟩
    · rw [hrun, hlen]
    · rw [hlen]
      exact ho'

theorem wp_push {o : Oper} {a : Act} {K : Act → World → Prop} {Q : Exit → Act → World → Prop} (w : World) (s x : Operand) (t : TypeId)
    (ho : o.op = .call { callee := .builtin .append, args := #[s, x], argTypes := #[t, t] })
    (lo : Nat) (e : TypeId) (i : TypeInfo) (z : Value) (bytes : Nat) (ht : P.underlying t = some (.slice e)) (hi : P.info? e = some i) (hz : i.zero = some z)
    (hsize : i.size = Enc.sz α) (hby : i.bytes = bytes) (hzs : z.cells.size = Enc.sz α)
    (A : Option Addr) (n c : Nat) (l : List α) (hs : a.eval s = .slice A n c) (hn : n = l.length) (hown : Own w lo e A c l)
    (lo2 : Nat) (ad : Addr) (m cc : Nat) (l2 : List α) (hx : a.eval x = .slice (some ad) m cc) (hm : m = l2.length) (hsl : Sl w lo2 (some ad) l2)
    (hbytes : (l.length + l2.length) * bytes ≤ 140737488355328) (h63 : l.length + l2.length ≤ maxLen) (hbase : lo ≤ w.heap.size)
    (h : ∀ A' c' w', Own w' lo e A' c' (l ++ l2) → Upd lo w w' → K (a.put o.dst (.slice A' (l ++ l2).length c')) w') : o.wp P a w K Q := by
  subst hn
  subst hm
  obtain ⟨A', c', w', hrun, h2, h3⟩ := run_push (P := P) w lo t o.type e i z bytes ht hi hz hsize hby hzs A c l hown lo2 ad cc l2 hsl hbytes h63 hbase
  unfold Oper.wp execOp
  simp only [ho, resolve, invoke, builtin, Sem.run_bind, Sem.run_pure, Result.andThen_ok, List.map_toArray, List.map_cons, List.map_nil, hs, hx, hrun]
  exact h A' c' w' h2 h3

theorem wpList_push {ops : Array Oper} {rest : List Oper} {o : Oper} {a : Act} {Q : Exit → Act → World → Prop} (w : World) (hgd : o.guard = none) (s x : Operand) (t : TypeId)
    (ho : o.op = .call { callee := .builtin .append, args := #[s, x], argTypes := #[t, t] })
    (lo : Nat) (e : TypeId) (i : TypeInfo) (z : Value) (bytes : Nat) (ht : P.underlying t = some (.slice e)) (hi : P.info? e = some i) (hz : i.zero = some z)
    (hsize : i.size = Enc.sz α) (hby : i.bytes = bytes) (hzs : z.cells.size = Enc.sz α)
    (A : Option Addr) (n c : Nat) (l : List α) (hs : a.eval s = .slice A n c) (hn : n = l.length) (hown : Own w lo e A c l)
    (lo2 : Nat) (ad : Addr) (m cc : Nat) (l2 : List α) (hx : a.eval x = .slice (some ad) m cc) (hm : m = l2.length) (hsl : Sl w lo2 (some ad) l2)
    (hbytes : (l.length + l2.length) * bytes ≤ 140737488355328) (h63 : l.length + l2.length ≤ maxLen) (hbase : lo ≤ w.heap.size)
    (h : ∀ A' c' w', Own w' lo e A' c' (l ++ l2) → Upd lo w w' → wpList P ops Q rest (a.put o.dst (.slice A' (l ++ l2).length c')) w') : wpList P ops Q (o :: rest) a w :=
  wpList_plain hgd fun _ hK => wp_push w s x t ho lo e i z bytes ht hi hz hsize hby hzs A n c l hs hn hown lo2 ad m cc l2 hx hm hsl hbytes h63 hbase fun A' c' w' h2 h3 => hK _ _ (h A' c' w' h2 h3)
end

/-! ## rows of ints -/
theorem row_ints_eq {w : World} {lo : Nat} {l : List Int} {cs : List Value} (h : Row w lo l cs) : cs = l.map (Value.int .i64) := by
  induction l generalizing cs with
  | nil => exact h
  | cons x l ih =>
    obtain ⟨c1, c2, rfl, rfl, h2⟩ := h
    rw [ih h2]; rfl

theorem Own.cell_int {w : World} {lo : Nat} {e : TypeId} {g c : Nat} {l : List Int} (h : Own w lo e (some ⟨g, 0, none⟩) c l) {j : Nat} (hj : j < l.length) : w.cell? ⟨g, j, none⟩ = some (.int .i64 l[j]) := by
  obtain ⟨_, cs, hr, ho⟩ := h
  rw [ho.cellAt j (by rw [show Enc.sz Int = 1 from rfl, Nat.mul_one]; exact hj), row_ints_eq hr]
  simp [hj]

theorem Own.frozen {α : Type} [Enc α] {w : World} {lo : Nat} {e : TypeId} {g c : Nat} {l : List α} (h : Own w lo e (some ⟨g, 0, none⟩) c l) (j : Nat) : w.frozen? ⟨g, j, none⟩ = false := by
  obtain ⟨_, cs, hr, ho⟩ := h
  exact ho.frozenAt j

theorem Own.set_int {w : World} {lo : Nat} {e : TypeId} {g c : Nat} {l : List Int} (h : Own w lo e (some ⟨g, 0, none⟩) c l) (j : Nat) (v : Int) : Own (w.setCell ⟨g, j, none⟩ (.int .i64 v)) lo e (some ⟨g, 0, none⟩) c (l.set j v) := by
  obtain ⟨hm, cs, hr, ho⟩ := h
  have e1 := row_ints_eq hr
  subst e1
  refine ⟨by rw [List.length_set]; exact hm, (l.set j v).map (Value.int .i64), row_ints _ _ _, ?_⟩
  have := (ho.stored j (.int .i64 v)).1
  rw [List.length_set, List.map_set]
  exact this

theorem sl_one {α : Type} [Enc α] [Flat α] (w : World) (lo : Nat) (cs : List Value) (t : TypeId) (x : α) (hlo : lo ≤ w.heap.size) (hr : Enc.rep w lo x cs) :
    Sl (w.alloc (.cells cs.toArray t)) lo (some ⟨w.heap.size, 0, none⟩) [x] :=
  sl_lit w lo cs t [x] hlo (by simp [maxLen]) (Row.single (Flat.flat hr))

theorem sl_int1 (w : World) (t : TypeId) (v : Int) (g : Nat) (hg : g = w.heap.size) : Sl (w.alloc (.cells #[.int .i64 v] t)) 0 (some ⟨g, 0, none⟩) [v] := by
  subst hg
  exact sl_one w 0 [.int .i64 v] t v (Nat.zero_le _) rfl
theorem sl_intsAt (w : World) (lo : Nat) (t : TypeId) (l : List Int) (g : Nat) (hg : g = w.heap.size) (hlo : lo ≤ w.heap.size) (hm : l.length ≤ maxLen) :
    Sl (w.alloc (.cells (l.map (Value.int .i64)).toArray t)) lo (some ⟨g, 0, none⟩) l := by
  subst hg
  exact sl_lit w lo _ t l hlo hm (row_ints _ lo l)

theorem Own.cap {α : Type} [Enc α] {w : World} {lo : Nat} {e : TypeId} {A : Option Addr} {c : Nat} {l : List α} (h : Own w lo e A c l) : l.length ≤ c := by
  obtain ⟨_, cs, _, ho⟩ := h
  rcases ho.2 with ⟨h1, h2⟩ | ⟨g, cap, cur, hv, _, _, hn, _⟩
  · omega
  · injection hv with _ _ hc
    omega

theorem Sl.take {α : Type} [Enc α] {w : World} {lo : Nat} {A : Option Addr} {l : List α} (h : Sl w lo A l) (k : Nat) : Sl w lo A (l.take k) := by
  obtain ⟨hm, cs, hr, hl⟩ := h
  refine ⟨by rw [List.length_take]; omega, _, hr.take k, fun hne => ?_⟩
  obtain ⟨ad, e, hb, hc⟩ := hl (by rintro rfl; simp at hne)
  refine ⟨ad, e, hb, fun j u hu => hc j u ?_⟩
  rw [List.getElem?_take] at hu
  split at hu
  · exact hu
  · cases hu

theorem Row.set_ {α : Type} [Enc α] {w : World} {lo : Nat} {l : List α} {cs : List Value} (h : Row w lo l cs) {i j : Nat} {x : α} {u : Value} (hi : i < l.length) (hj : j < Enc.sz α)
    (hx : ∀ c1, Enc.rep w lo l[i] c1 → Enc.rep w lo x (c1.set j u)) : Row w lo (l.set i x) (cs.set (i * Enc.sz α + j) u) := by
  induction l generalizing cs i with
  | nil => simp at hi
  | cons y l ih =>
    obtain ⟨c1, c2, rfl, h1, h2⟩ := h
    have hlen := Enc.len h1
    cases i with
    | zero =>
      refine ⟨c1.set j u, c2, ?_, hx _ h1, h2⟩
      rw [Nat.zero_mul, Nat.zero_add, List.set_append_left _ _ (by omega)]
    | succ i =>
      refine ⟨c1, c2.set (i * Enc.sz α + j) u, ?_, h1, ih h2 (by simpa using hi) hx⟩
      rw [List.set_append_right _ _ (by rw [hlen, Nat.add_mul]; omega)]
      congr 2
      rw [hlen, Nat.add_mul]; omega

theorem Own.put {α : Type} [Enc α] [Flat α] {w : World} {lo : Nat} {e : TypeId} {g c : Nat} {l : List α} (h : Own w lo e (some ⟨g, 0, none⟩) c l) {i j : Nat} {x : α} {u : Value} (hi : i < l.length) (hj : j < Enc.sz α)
    (hx : ∀ c1, Enc.rep w lo l[i] c1 → Enc.rep w lo x (c1.set j u)) : Own (w.setCell ⟨g, i * Enc.sz α + j, none⟩ u) lo e (some ⟨g, 0, none⟩) c (l.set i x) := by
  obtain ⟨hm, cs, hr, ho⟩ := h
  refine ⟨by rw [List.length_set]; exact hm, _, (hr.set_ hi hj hx).flat, ?_⟩
  have := (ho.stored (i * Enc.sz α + j) u).1
  rw [List.length_set]
  exact this

theorem Own.lower {α : Type} [Enc α] {w : World} {lo lo' : Nat} {e : TypeId} {A : Option Addr} {c : Nat} {l : List α} (h : Own w lo e A c l) (hl : lo' ≤ lo) : Own w lo' e A c l := by
  obtain ⟨hm, cs, hr, h1, h2⟩ := h
  refine ⟨hm, cs, hr.mono hl, h1, ?_⟩
  rcases h2 with h2 | ⟨g, cap, cur, hv, hb, rest⟩
  · exact .inl h2
  · exact .inr ⟨g, cap, cur, hv, by omega, rest⟩

theorem sl_oneAt {α : Type} [Enc α] [Flat α] (w : World) (lo : Nat) (cs : List Value) (t : TypeId) (x : α) (g : Nat) (hg : g = w.heap.size) (hlo : lo ≤ w.heap.size) (hr : Enc.rep w lo x cs) :
    Sl (w.alloc (.cells cs.toArray t)) lo (some ⟨g, 0, none⟩) [x] := by
  subst hg
  exact sl_one w lo cs t x hlo hr

theorem SOut.lt {b : Nat} {N : Int} {w w' : World} (h : SOut b N w w') : b < w'.heap.size := h.2.lt
theorem SOut.refl {b : Nat} {N : Int} {w : World} (h : Strm w b N) : SOut b N w w := ⟨World.grownBy.refl _ _, h⟩
theorem SOut.trans {b : Nat} {N N' : Int} {w w1 w2 : World} (h : SOut b N w w1) (k : SOut b N' w1 w2) : SOut b N' w w2 := ⟨gr_trans h.1 k.1, k.2⟩
theorem SOut.pure {b : Nat} {N : Int} {w w1 w2 : World} (h : SOut b N w w1) (k : w1.grownBy w2 none) : SOut b N w w2 := ⟨gr_step h.1 k, h.2.pure k⟩
theorem SOut.mono {b : Nat} {N N' : Int} {w w1 : World} (h : SOut b N w w1) (k : N ≤ N') : SOut b N' w w1 := ⟨h.1, h.2.mono k⟩
theorem SOut.upd {b lo : Nat} {N : Int} {w w1 w2 : World} (h : SOut b N w w1) (hw : w.heap.size ≤ lo) (hb : b < lo) (k : Upd lo w1 w2) : SOut b N w w2 := ⟨k.gr hw h.1, k.strm hb h.2⟩
theorem Own.s {α : Type} [Enc α] {w w' : World} {lo b : Nat} {N : Int} {e : TypeId} {A : Option Addr} {c : Nat} {l : List α} (h : Own w lo e A c l) (k : SOut b N w w') (hb : b < lo) : Own w' lo e A c l :=
  h.keep k.1 (fun g e => by cases e; exact hb)
theorem Sl.s {α : Type} [Enc α] {w w' : World} {lo b : Nat} {N : Int} {A : Option Addr} {l : List α} (h : Sl w lo A l) (k : SOut b N w w') (hb : b < lo) : Sl w' lo A l :=
  h.gr k.1 (fun g e => by cases e; exact hb)

theorem strm_new {w : World} {A : Option Addr} {n c : Nat} {l : List Int} (t : TypeId) (hl : Sl w 0 A l) (hn : l.length = n) : Strm (w.alloc (.cells #[.slice A n c, .int .i64 0] t)) w.heap.size 0 := by
  subst hn
  have hm := hl.1
  refine ⟨A, l.length, c, 0, ?_, ?_, ?_, by omega, by omega, hm, fun i hi => ?_⟩
  · rw [cell_of_row _ w.heap.size 0 _ t (0, 0) (heap_alloc_new w _)]; rfl
  · rw [cell_of_row _ w.heap.size 1 _ t (0, 0) (heap_alloc_new w _)]; rfl
  · exact frozen_of_row _ w.heap.size 1 _ t (heap_alloc_new w _)
  · obtain ⟨g, o, c1, e, _, hb, rfl, hc⟩ := hl.at_ (by decide) hi
    have := hc 0 _ rfl
    rw [show Enc.sz Int = 1 from rfl, Nat.mul_one] at this
    refine ⟨⟨g, o, none⟩, l[i], e, hb, ?_⟩
    rw [Addr.add_lit]
    exact (World.grownBy_alloc w _ none).cell this (by simp)

end Go.Bl
namespace Go
theorem World.grownBy.t {w w1 w2 : World} {r : Option Nat} (h : w.grownBy w1 r) (k : w1.grownBy w2 r) : w.grownBy w2 r := Bl.gr_trans h k
theorem World.grownBy.a {w w1 : World} {r : Option Nat} (h : w.grownBy w1 r) (o : Obj) : w.grownBy (w1.alloc o) r := Bl.gr_alloc h o
theorem World.grownBy.k {w w1 : World} (h : w.grownBy w1 none) {p : Addr} {v : Value} (hc : w.cell? p = some v) : w1.cell? p = some v := h.cell hc (by simp)
theorem World.grownBy.f {w w1 : World} (h : w.grownBy w1 none) {p : Addr} {u : Value} (hc : w.cell? p = some u) {b : Bool} (hf : w.frozen? p = b) : w1.frozen? p = b := by
  rw [World.frozen?_of_block (h.block _ (World.block_lt_of_cell? w p hc) (by simp))]; exact hf
theorem gnew (w : World) (o : Obj) : w.grownBy (w.alloc o) none := World.grownBy_alloc w o none
end Go
namespace Go.Bl

theorem sl_of_ints {w : World} {x : Addr} {zs : List Int} {n : Nat} (hn : n ≤ zs.length) (hm : zs.length ≤ maxLen) (hc : ∀ i, i < zs.length → w.cell? (x.add i) = some (.int .i64 (zs.getD i 0))) : Sl w 0 (some x) (zs.take n) := by
  refine ⟨by rw [List.length_take]; omega, _, row_ints w 0 _, fun _ => ⟨x, rfl, Nat.zero_le _, fun j u hu => ?_⟩⟩
  rw [List.getElem?_map, List.getElem?_take] at hu
  split at hu
  · rename_i hj
    have hj2 : j < zs.length := by omega
    rw [List.getElem?_eq_getElem hj2] at hu
    simp only [Option.map_some, Option.some.injEq] at hu
    subst hu
    rw [hc j hj2]
    simp [List.getD, hj2]
  · simp at hu

theorem Own.empty {α : Type} [Enc α] (w : World) (lo : Nat) (e : TypeId) (hlo : lo ≤ w.heap.size) : Own (w.alloc (.cells #[] e)) lo e (some ⟨w.heap.size, 0, none⟩) 0 ([] : List α) :=
  ⟨by simp [maxLen], [], rfl, by simp, .inr ⟨w.heap.size, 0, #[], rfl, hlo, heap_alloc_new w _, Nat.le_refl _, by simp [maxLen], by simp, by simp⟩⟩
theorem Upd.pure {lo : Nat} {w w1 w2 : World} {r : Option Nat} (h : Upd lo w1 w2) (h0 : w.heap.size ≤ lo) (hg : w.grownBy w1 r) : w.grownBy w2 r := h.gr h0 hg
end Go.Bl
