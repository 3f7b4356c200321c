/- Contracts of functions that this seat's laws reach, each: what one call returns and what it leaves in memory; no condition beyond each theorem's own hypotheses. -/
import Derived.Test.YtoldefommoiiiaaGreatDoorZqTree
import Derived.Test.YtoldefommoiiiaaGreatDoorZqKit3
set_option linter.unusedVariables false
set_option linter.unusedSimpArgs false
namespace Go.Bl
open Go

def Typ (w : World) (g : Nat) (t : TypeId) : Prop := ∃ cs k, w.heap[g]? = some (.cells cs t k)

theorem Typ.new (w : World) (cs : Array Value) (t : TypeId) : Typ (w.alloc (.cells cs t)) w.heap.size t := ⟨cs, (0, 0), heap_alloc_new w _⟩

theorem Typ.lt {w : World} {g : Nat} {t : TypeId} (h : Typ w g t) : g < w.heap.size := by
  obtain ⟨cs, k, h⟩ := h
  exact (Array.getElem?_eq_some_iff.1 h).1

theorem Typ.gr {w w' : World} {g : Nat} {t : TypeId} {r : Option Nat} (h : Typ w g t) (hg : w.grownBy w' r) (hr : r ≠ some g) : Typ w' g t := by
  have hl := h.lt
  obtain ⟨cs, k, h⟩ := h
  exact ⟨cs, k, (hg.block g hl (Ne.symm hr)).trans h⟩

theorem Typ.uniq {w : World} {g : Nat} {t u : TypeId} (h : Typ w g t) (k : Typ w g u) : t = u := by
  obtain ⟨cs, k1, h⟩ := h
  obtain ⟨cs', k2, k⟩ := k
  rw [h] at k
  injection k with k
  injection k

theorem Own.typ {α : Type} [Enc α] {w : World} {lo : Nat} {e : TypeId} {A : Option Addr} {c : Nat} {l : List α} (h : Own w lo e A c l) {g : Nat} (hg : blk A = some g) : Typ w g e := by
  obtain ⟨_, cs, _, ho⟩ := h
  rcases ho.2 with ⟨h1, _⟩ | ⟨g', cap, cur, hv, _, hh, _⟩
  · injection h1 with h1
    subst h1
    cases hg
  · injection hv with hv
    subst hv
    simp only [blk, Option.map_some, Option.some.injEq] at hg
    subst hg
    exact ⟨cur, _, hh⟩
/-- a block of a type whose first cells are known and open -/
def Box (w : World) (g : Nat) (t : TypeId) (vs : List Value) : Prop := Typ w g t ∧ ∀ i v, vs[i]? = some v → Cell w g i v
section
variable {w w' : World} {g : Nat} {t : TypeId} {vs : List Value}

theorem Box.new (w : World) (vs : List Value) (t : TypeId) : Box (w.alloc (.cells vs.toArray t)) w.heap.size t vs := ⟨Typ.new _ _ _, fun i v h => Cell.new w vs t i v h _ rfl⟩

theorem Box.lt (h : Box w g t vs) : g < w.heap.size := h.1.lt

theorem Box.c (h : Box w g t vs) (i : Nat) {v : Value} (hv : vs[i]? = some v) : Cell w g i v := h.2 i v hv

theorem Box.gr {r : Option Nat} (h : Box w g t vs) (hg : w.grownBy w' r) (hr : r ≠ some g) : Box w' g t vs := ⟨h.1.gr hg hr, fun i v hv => (h.2 i v hv).gr hg hr⟩

theorem Box.pure (h : Box w g t vs) (hg : w.grownBy w' none) : Box w' g t vs := h.gr hg (by simp)

theorem Typ.set_ (h : Typ w g t) (p : Addr) (v : Value) : Typ (w.setCell p v) g t := by
  obtain ⟨cs, k, h⟩ := h
  unfold World.setCell
  by_cases hp : p.block = g
  · subst hp
    exact ⟨if p.spot.isSome then cs else cs.setIfInBounds p.off v, k, by simp only [Array.getElem?_modify, if_true, h, Option.map_some]⟩
  · exact ⟨cs, k, by simp only [Array.getElem?_modify, if_neg hp, h]⟩

theorem Box.set_ (h : Box w g t vs) (i : Nat) (v : Value) (hi : i < vs.length) : Box (w.setCell ⟨g, i, none⟩ v) g t (vs.set i v) := by
  refine ⟨h.1.set_ _ _, fun j u hu => ?_⟩
  rw [List.getElem?_set] at hu
  by_cases hij : i = j
  · subst hij
    rw [if_pos rfl, if_pos hi] at hu
    injection hu with hu
    subst hu
    exact (h.2 i vs[i] (List.getElem?_eq_getElem hi)).set_ v
  · rw [if_neg hij] at hu
    exact (h.2 j u hu).set_ne v hij

theorem Box.set_other (h : Box w g t vs) {g' i : Nat} (v : Value) (hg : g' ≠ g) : Box (w.setCell ⟨g', i, none⟩ v) g t vs := h.gr (gr_set (World.grownBy.refl w (some g')) (p := ⟨g', i, none⟩) (.inl rfl) v) (fun e => hg (by injection e))

theorem Own.set_other {α : Type} [Enc α] [Flat α] {lo : Nat} {e : TypeId} {A : Option Addr} {c : Nat} {l : List α} (h : Own w lo e A c l) {g' i : Nat} (v : Value) (hg : blk A ≠ some g') : Own (w.setCell ⟨g', i, none⟩ v) lo e A c l :=
  h.ne (gr_set (World.grownBy.refl w (some g')) (p := ⟨g', i, none⟩) (.inl rfl) v) (fun x hx e => hg (by rw [hx]; exact e.symm))

theorem Box.ne_own {α : Type} [Enc α] {lo : Nat} {e : TypeId} {A : Option Addr} {c : Nat} {l : List α} (h : Box w g t vs) (ho : Own w lo e A c l) (hne : e ≠ t) : blk A ≠ some g := fun e1 => hne ((ho.typ e1).uniq h.1)

theorem Box.sl {α : Type} [Enc α] {lo : Nat} {l : List α} (h : Box w g t vs) (hr : Row w lo l vs) (hl : lo ≤ g) (hm : l.length ≤ maxLen) : Sl w lo (some ⟨g, 0, none⟩) l :=
  ⟨hm, vs, hr, fun _ => ⟨_, rfl, hl, fun j u hu => by rw [Addr.add_lit, Nat.zero_add]; exact (h.2 j u hu).1⟩⟩

theorem Own.ne_own {α β : Type} [Enc α] [Enc β] {lo lo' : Nat} {e e' : TypeId} {A A' : Option Addr} {c c' : Nat} {l : List α} {l' : List β} (h : Own w lo e A c l) (h' : Own w lo' e' A' c' l') (hne : e ≠ e') {x : Nat} (hx : blk A = some x) : blk A' ≠ some x := fun e1 => hne ((h.typ hx).uniq (h'.typ e1))
end

end Go.Bl

namespace Go.Bl
open Go

structure RowsP (w : World) (lo li : Nat) (eo ei : TypeId) (A : Option Addr) (c : Nat) (raws : List RawP) (ls : List PathV) : Prop where
  out : Own w lo eo A c raws
  len : raws.length = ls.length
  ins : ∀ i (h : i < raws.length) (h2 : i < ls.length), (raws[i].n = ls[i].pts.length ∧ raws[i].b = ls[i].cl) ∧ Own w li ei raws[i].A raws[i].c ls[i].pts
  dis : ∀ i k (hi : i < raws.length) (hk : k < raws.length), i ≠ k → ∀ g, blk raws[i].A = some g → blk raws[k].A ≠ some g
  typ : eo ≠ ei
  le : lo ≤ li
section
variable {w w' : World} {lo li : Nat} {eo ei : TypeId} {A : Option Addr} {c : Nat} {raws : List RawP} {ls : List PathV}

theorem RowsP.gr {q : Option Nat} (h : RowsP w lo li eo ei A c raws ls) (hg : w.grownBy w' q) (hq : ∀ g, q = some g → g < lo) : RowsP w' lo li eo ei A c raws ls :=
  ⟨h.out.keep hg hq, h.len, fun i h1 h2 => ⟨(h.ins i h1 h2).1, (h.ins i h1 h2).2.keep hg (fun g e => Nat.lt_of_lt_of_le (hq g e) h.le)⟩, h.dis, h.typ, h.le⟩

theorem RowsP.pure (h : RowsP w lo li eo ei A c raws ls) (hg : w.grownBy w' none) : RowsP w' lo li eo ei A c raws ls := h.gr hg (fun g e => by cases e)

theorem RowsP.s {b : Nat} {N : Int} (h : RowsP w lo li eo ei A c raws ls) (k : SOut b N w w') (hb : b < lo) : RowsP w' lo li eo ei A c raws ls := h.gr k.1 (fun g e => by cases e; exact hb)

theorem RowsP.apart (h : RowsP w lo li eo ei A c raws ls) {i : Nat} (h1 : i < raws.length) {g : Nat} (hg : blk A = some g) : blk raws[i].A ≠ some g := h.out.ne_own (h.ins i h1 (by rw [← h.len]; exact h1)).2 h.typ hg

theorem RowsP.apart' (h : RowsP w lo li eo ei A c raws ls) {i : Nat} (h1 : i < raws.length) {g : Nat} (hg : blk raws[i].A = some g) : blk A ≠ some g := fun e => h.apart h1 e hg

theorem RowsP.nil {w : World} {lo li : Nat} {eo ei : TypeId} (ht : eo ≠ ei) (hle : lo ≤ li) : RowsP w lo li eo ei none 0 [] [] :=
  { out := Own.nil _ _ _, len := rfl, typ := ht, le := hle
    ins := fun i h1 h2 => by simp at h1
    dis := fun i k hi hk hne g hg => by simp at hi }

theorem RowsP.lower {lo' : Nat} (h : RowsP w lo li eo ei A c raws ls) (hl : lo' ≤ lo) : RowsP w lo' li eo ei A c raws ls := ⟨h.out.lower hl, h.len, h.ins, h.dis, h.typ, Nat.le_trans hl h.le⟩

theorem RowsP.cell {g : Nat} (h : RowsP w lo li eo ei (some ⟨g, 0, none⟩) c raws ls) {i : Nat} (hi : i < raws.length) : w.cell? ⟨g, i * 2, none⟩ = some (.slice raws[i].A raws[i].n raws[i].c) := (h.out.cell_rawp hi).1
/-- behind an append to a row -/
theorem RowsP.outer (h : RowsP w lo li eo ei A c raws ls) {i : Nat} (hi : i < raws.length) {A5 : Option Addr} (hG : Grew raws[i].A A5 w w') : Own w' lo eo A c raws := h.out.ne hG.1 fun g hg e => h.apart hi hg e
end
section
variable {w w' : World} {lo li : Nat} {eo ei : TypeId} {A : Option Addr} {c : Nat} {raws : List RawP} {ls : List PathV}

theorem RowsP.sl (h : RowsP w lo li eo ei A c raws ls) : Sl w lo A ls := by
  have ha : All2 (NOk RawP w lo A) raws ls := by
    have : ∀ (rs : List RawP) (l : List PathV), rs.length = l.length → (∀ i (h1 : i < rs.length) (h2 : i < l.length), NOk RawP w lo A rs[i] l[i]) → All2 (NOk RawP w lo A) rs l := by
      intro rs
      induction rs with
      | nil => intro l hl _; cases l with
        | nil => exact .nil
        | cons x l => simp at hl
      | cons r rs ih => intro l hl hh; cases l with
        | nil => simp at hl
        | cons x l => exact .cons (hh 0 (by simp) (by simp)) (ih l (by simpa using hl) fun i h1 h2 => hh (i + 1) (by simpa using h1) (by simpa using h2))
    refine this raws ls h.len fun i h1 h2 => ?_
    obtain ⟨e, ho⟩ := h.ins i h1 h2
    exact ⟨⟨e.1, e.2, by rw [e.1]; exact ho.cap, ho.sl.mono h.le, fun g hg => ⟨Nat.le_trans h.le (ho.blk_lt hg).1, (ho.blk_lt hg).2⟩⟩, fun g hg => h.apart' h1 hg⟩
  exact OwnN.sl (ρ := RawP) (e := eo) (c := c) ⟨raws, h.out, ha⟩

theorem RowsP.put {g : Nat} (h : RowsP w lo li eo ei (some ⟨g, 0, none⟩) c raws ls) {i : Nat} (hi : i < raws.length) {A5 : Option Addr} {c5 : Nat} {l5 : List Pt} (ho : Own w' li ei A5 c5 l5) (hG : Grew raws[i].A A5 w w') :
    RowsP (w'.setCell ⟨g, i * 2, none⟩ (.slice A5 l5.length c5)) lo li eo ei (some ⟨g, 0, none⟩) c (raws.set i ⟨A5, l5.length, c5, raws[i].b⟩) (ls.set i ⟨l5, raws[i].b⟩) := by
  have hO := (h.outer hi hG).put (j := 0) (x := (⟨A5, l5.length, c5, raws[i].b⟩ : RawP)) (u := .slice A5 l5.length c5) hi (by decide) (by rintro c1 rfl; rfl)
  rw [show Enc.sz RawP = 2 from rfl, Nat.add_zero] at hO
  have hn5 : blk A5 ≠ some g := (h.outer hi hG).ne_own ho h.typ rfl
  have hlt : ∀ k (hk : k < raws.length) x, blk raws[k].A = some x → x < w.heap.size := fun k hk x hx => ((h.ins k hk (by rw [← h.len]; exact hk)).2.blk_lt hx).2
  refine ⟨hO, by simp [h.len], fun k h1 h2 => ?_, fun k m hk hm hne x hx => ?_, h.typ, h.le⟩
  · rw [List.length_set] at h1 h2
    rw [List.getElem_set, List.getElem_set]
    by_cases e : i = k
    · subst e
      rw [if_pos rfl, if_pos rfl]
      exact ⟨⟨rfl, rfl⟩, ho.set_other _ hn5⟩
    · rw [if_neg e, if_neg e]
      obtain ⟨e1, e2⟩ := h.ins k h1 h2
      exact ⟨e1, (e2.ne hG.1 fun x hx => h.dis k i h1 hi (Ne.symm e) x hx).set_other _ (h.apart h1 rfl)⟩
  · rw [List.length_set] at hk hm
    rw [List.getElem_set] at hx ⊢
    by_cases e1 : i = k
    · subst e1
      rw [if_pos rfl] at hx
      rw [if_neg hne]
      rcases hG.2 with e | e
      · rw [e] at hx; exact h.dis i m hk hm hne x hx
      · rw [e] at hx; injection hx with hx; intro e3; have := hlt m hm x e3; omega
    · rw [if_neg e1] at hx
      by_cases e2 : i = m
      · subst e2
        rw [if_pos rfl]
        rcases hG.2 with e | e
        · rw [e]; exact h.dis k i hk hm hne x hx
        · rw [e]; intro e3; injection e3 with e3; have := hlt k hk x hx; omega
      · rw [if_neg e2]; exact h.dis k m hk hm hne x hx
/-- behind an append of an empty row to the outer one -/
theorem RowsP.push {b : Bool} {A' : Option Addr} {c' : Nat} (h : RowsP w lo li eo ei A c raws ls) (ho : Own w' lo eo A' c' (raws ++ [⟨none, 0, 0, b⟩])) (hG : Grew A A' w w') : RowsP w' lo li eo ei A' c' (raws ++ [⟨none, 0, 0, b⟩]) (ls ++ [⟨[], b⟩]) := by
  refine ⟨ho, by simp [h.len], fun i h1 h2 => ?_, fun i k hi hk hne g hg => ?_, h.typ, h.le⟩
  · by_cases e : i < raws.length
    · have e2 : i < ls.length := by rw [← h.len]; exact e
      rw [List.getElem_append_left e, List.getElem_append_left e2]
      exact ⟨(h.ins i e e2).1, (h.ins i e e2).2.ne hG.1 fun g hg e3 => h.apart e e3 hg⟩
    · have e2 : i = raws.length := by simp at h1; omega
      subst e2
      rw [List.getElem_append_right (Nat.le_refl _), List.getElem_append_right (by rw [h.len]; exact Nat.le_refl _)]
      simp only [h.len, Nat.sub_self, List.getElem_cons_zero]
      exact ⟨by simp, Own.nil _ _ _⟩
  · have get : ∀ j (hj : j < (raws ++ [(⟨none, 0, 0, b⟩ : RawP)]).length) (x : Nat), blk (raws ++ [(⟨none, 0, 0, b⟩ : RawP)])[j].A = some x → ∃ h : j < raws.length, blk raws[j].A = some x := by
      intro j hj x hx
      by_cases e : j < raws.length
      · rw [List.getElem_append_left e] at hx; exact ⟨e, hx⟩
      · have e2 : j = raws.length := by simp at hj; omega
        subst e2
        rw [List.getElem_append_right (Nat.le_refl _)] at hx
        simp only [Nat.sub_self, List.getElem_cons_zero] at hx
        cases hx
    obtain ⟨e1, e2⟩ := get i hi g hg
    intro e3
    obtain ⟨e4, e5⟩ := get k hk g e3
    exact h.dis i k e1 e4 hne g e2 e5
end

end Go.Bl
