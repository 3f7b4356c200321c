/- Contracts of functions that this seat's laws reach, each: what one call returns and what it leaves in memory; no condition beyond each theorem's own hypotheses. -/
import Derived.Test.YtgcfaamgilbjdaaGreatDoorZqGrS
import Derived.Test.YtgcfaamgilbjdaaGreatDoorZqBitRun
import Derived.Test.YtgcfaamgilbjdaaGreatDoorZqNestCat
set_option linter.unusedVariables false
set_option linter.unusedSimpArgs false
namespace Go.Bl
open Go

structure RowsN {α : Type} [Enc α] (w : World) (lo li : Nat) (eo ei : TypeId) (A : Option Addr) (c : Nat) (raws : List RawS) (ls : List (List α)) : Prop where
  out : Own w lo eo A c raws
  len : raws.length = ls.length
  ins : ∀ i (h : i < raws.length) (h2 : i < ls.length), raws[i].n = ls[i].length ∧ Own w li ei raws[i].A raws[i].c ls[i]
  dis : ∀ i k (hi : i < raws.length) (hk : k < raws.length), i ≠ k → ∀ g, blk raws[i].A = some g → blk raws[k].A ≠ some g
  typ : eo ≠ ei
  le : lo ≤ li
section
variable {α : Type} [Enc α] {w w' : World} {lo li : Nat} {eo ei : TypeId} {A : Option Addr} {c : Nat} {raws : List RawS} {ls : List (List α)}

theorem RowsN.gr {q : Option Nat} (h : RowsN w lo li eo ei A c raws ls) (hg : w.grownBy w' q) (hq : ∀ g, q = some g → g < lo) : RowsN w' lo li eo ei A c raws ls :=
  ⟨h.out.keep hg hq, h.len, fun i h1 h2 => ⟨(h.ins i h1 h2).1, (h.ins i h1 h2).2.keep hg (fun g e => Nat.lt_of_lt_of_le (hq g e) h.le)⟩, h.dis, h.typ, h.le⟩

theorem RowsN.pure (h : RowsN w lo li eo ei A c raws ls) (hg : w.grownBy w' none) : RowsN w' lo li eo ei A c raws ls := h.gr hg (fun g e => by cases e)

theorem RowsN.s {b : Nat} {N : Int} (h : RowsN w lo li eo ei A c raws ls) (k : SOut b N w w') (hb : b < lo) : RowsN w' lo li eo ei A c raws ls := h.gr k.1 (fun g e => by cases e; exact hb)

theorem RowsN.apart (h : RowsN w lo li eo ei A c raws ls) {i : Nat} (h1 : i < raws.length) {g : Nat} (hg : blk A = some g) : blk raws[i].A ≠ some g := h.out.ne_own (h.ins i h1 (by rw [← h.len]; exact h1)).2 h.typ hg

theorem RowsN.apart' (h : RowsN w lo li eo ei A c raws ls) {i : Nat} (h1 : i < raws.length) {g : Nat} (hg : blk raws[i].A = some g) : blk A ≠ some g := fun e => h.apart h1 e hg
/-- n rows with nothing in them -/
theorem RowsN.made {n : Nat} (ho : Own w lo eo A c (List.replicate n (⟨none, 0, 0⟩ : RawS))) (ht : eo ≠ ei) (hle : lo ≤ li) : RowsN w lo li eo ei A c (List.replicate n (⟨none, 0, 0⟩ : RawS)) (List.replicate n ([] : List α)) :=
  { out := ho, len := by simp, typ := ht, le := hle
    ins := fun i h1 h2 => by simp only [List.getElem_replicate]; exact ⟨rfl, Own.nil _ _ _⟩
    dis := fun i k hi hk hne g hg => by simp only [List.getElem_replicate] at hg; cases hg }

theorem RowsN.lower {lo' : Nat} (h : RowsN w lo li eo ei A c raws ls) (hl : lo' ≤ lo) : RowsN w lo' li eo ei A c raws ls := ⟨h.out.lower hl, h.len, h.ins, h.dis, h.typ, Nat.le_trans hl h.le⟩

theorem RowsN.cell {g : Nat} (h : RowsN w lo li eo ei (some ⟨g, 0, none⟩) c raws ls) {i : Nat} (hi : i < raws.length) : w.cell? ⟨g, i, none⟩ = some (.slice raws[i].A raws[i].n raws[i].c) := by
  obtain ⟨c1, rfl, hc⟩ := h.out.cell_at (by decide) hi
  have := hc 0 _ rfl
  rwa [show Enc.sz RawS = 1 from rfl, Nat.mul_one] at this
/-- behind an append to a row -/
theorem RowsN.outer (h : RowsN w lo li eo ei A c raws ls) {i : Nat} (hi : i < raws.length) {A5 : Option Addr} (hG : Grew raws[i].A A5 w w') : Own w' lo eo A c raws := h.out.ne hG.1 fun g hg e => h.apart hi hg e
end
section
variable {α : Type} [Enc α] [Flat α] {w w' : World} {lo li : Nat} {eo ei : TypeId} {A : Option Addr} {c : Nat} {raws : List RawS} {ls : List (List α)}

theorem RowsN.sl (h : RowsN w lo li eo ei A c raws ls) : Sl w lo A ls := by
  have ha : All2 (NOk RawS w lo A) raws ls := by
    have : ∀ (rs : List RawS) (l : List (List α)), rs.length = l.length → (∀ i (h1 : i < rs.length) (h2 : i < l.length), NOk RawS w lo A rs[i] l[i]) → All2 (NOk RawS w lo A) rs l := by
      intro rs
      induction rs with
      | nil => intro l hl _; cases l with
        | nil => exact .nil
        | cons x l => simp at hl
      | cons r rs ih => intro l hl hh; cases l with
        | nil => simp at hl
        | cons x l => exact .cons (hh 0 (by simp) (by simp)) (ih l (by simpa using hl) fun i h1 h2 => hh (i + 1) (by simpa using h1) (by simpa using h2))
    refine this raws ls h.len fun i h1 h2 => ?_
    obtain ⟨e, ho⟩ := h.ins i h1 h2
    exact ⟨⟨e, by rw [e]; exact ho.cap, ho.sl.mono h.le, fun g hg => ⟨Nat.le_trans h.le (ho.blk_lt hg).1, (ho.blk_lt hg).2⟩⟩, fun g hg => h.apart' h1 hg⟩
  exact OwnN.sl (ρ := RawS) (e := eo) (c := c) ⟨raws, h.out, ha⟩

theorem RowsN.put {g : Nat} (h : RowsN w lo li eo ei (some ⟨g, 0, none⟩) c raws ls) {i : Nat} (hi : i < raws.length) {A5 : Option Addr} {c5 : Nat} {l5 : List α} (ho : Own w' li ei A5 c5 l5) (hG : Grew raws[i].A A5 w w') :
    RowsN (w'.setCell ⟨g, i, none⟩ (.slice A5 l5.length c5)) lo li eo ei (some ⟨g, 0, none⟩) c (raws.set i ⟨A5, l5.length, c5⟩) (ls.set i l5) := by
  have hO := (h.outer hi hG).put (j := 0) (x := (⟨A5, l5.length, c5⟩ : RawS)) (u := .slice A5 l5.length c5) hi (by decide) (by rintro c1 rfl; rfl)
  rw [show Enc.sz RawS = 1 from rfl, Nat.mul_one, Nat.add_zero] at hO
  have hn5 : blk A5 ≠ some g := (h.outer hi hG).ne_own ho h.typ rfl
  have hlt : ∀ k (hk : k < raws.length) x, blk raws[k].A = some x → x < w.heap.size := fun k hk x hx => ((h.ins k hk (by rw [← h.len]; exact hk)).2.blk_lt hx).2
  refine ⟨hO, by simp [h.len], fun k h1 h2 => ?_, fun k m hk hm hne x hx => ?_, h.typ, h.le⟩
  · rw [List.length_set] at h1 h2
    rw [List.getElem_set, List.getElem_set]
    by_cases e : i = k
    · subst e
      rw [if_pos rfl, if_pos rfl]
      exact ⟨rfl, ho.set_other _ hn5⟩
    · rw [if_neg e, if_neg e]
      obtain ⟨e1, e2⟩ := h.ins k h1 h2
      exact ⟨e1, (e2.ne hG.1 fun x hx => h.dis k i h1 hi (Ne.symm e) x hx).set_other _ (h.apart h1 rfl)⟩
  · rw [List.length_set] at hk hm
    rw [List.getElem_set] at hx ⊢
    by_cases e1 : i = k
    · subst e1
      rw [if_pos rfl] at hx
      rw [if_neg hne]
      rcases hG.2 with e | e
      · rw [e] at hx; exact h.dis i m hk hm hne x hx
      · rw [e] at hx; injection hx with hx; intro e3; have := hlt m hm x e3; omega
    · rw [if_neg e1] at hx
      by_cases e2 : i = m
      · subst e2
        rw [if_pos rfl]
        rcases hG.2 with e | e
        · rw [e]; exact h.dis k i hk hm hne x hx
        · rw [e]; intro e3; injection e3 with e3; have := hlt k hk x hx; omega
      · rw [if_neg e2]; exact h.dis k m hk hm hne x hx
/-- behind an append of an empty row to the outer one -/
theorem RowsN.push {A' : Option Addr} {c' : Nat} (h : RowsN w lo li eo ei A c raws ls) (ho : Own w' lo eo A' c' (raws ++ [⟨none, 0, 0⟩])) (hG : Grew A A' w w') : RowsN w' lo li eo ei A' c' (raws ++ [⟨none, 0, 0⟩]) (ls ++ [[]]) := by
  refine ⟨ho, by simp [h.len], fun i h1 h2 => ?_, fun i k hi hk hne g hg => ?_, h.typ, h.le⟩
  · by_cases e : i < raws.length
    · have e2 : i < ls.length := by rw [← h.len]; exact e
      rw [List.getElem_append_left e, List.getElem_append_left e2]
      exact ⟨(h.ins i e e2).1, (h.ins i e e2).2.ne hG.1 fun g hg e3 => h.apart e e3 hg⟩
    · have e2 : i = raws.length := by simp at h1; omega
      subst e2
      rw [List.getElem_append_right (Nat.le_refl _), List.getElem_append_right (by rw [h.len]; exact Nat.le_refl _)]
      simp only [h.len, Nat.sub_self, List.getElem_cons_zero]
      exact ⟨rfl, Own.nil _ _ _⟩
  · have get : ∀ j (hj : j < (raws ++ [(⟨none, 0, 0⟩ : RawS)]).length) (x : Nat), blk (raws ++ [(⟨none, 0, 0⟩ : RawS)])[j].A = some x → ∃ h : j < raws.length, blk raws[j].A = some x := by
      intro j hj x hx
      by_cases e : j < raws.length
      · rw [List.getElem_append_left e] at hx; exact ⟨e, hx⟩
      · have e2 : j = raws.length := by simp at hj; omega
        subst e2
        rw [List.getElem_append_right (Nat.le_refl _)] at hx
        simp only [Nat.sub_self, List.getElem_cons_zero] at hx
        cases hx
    obtain ⟨e1, e2⟩ := get i hi g hg
    intro e3
    obtain ⟨e4, e5⟩ := get k hk g e3
    exact h.dis i k e1 e4 hne g e2 e5
end

end Go.Bl
