/- Contracts of functions that this seat's laws reach, each: what one call returns and what it leaves in memory; no condition beyond each theorem's own hypotheses. -/
import Derived.Test.YtanioobepfllgaaGreatDoorZqGreData
import Derived.Test.YtanioobepfllgaaGreatDoorZqTwo
import Derived.Test.YtanioobepfllgaaGreatDoorZqSlices
import Derived.Test.YtanioobepfllgaaGreatDoorZqDelData
set_option linter.unusedVariables false
set_option linter.unusedSimpArgs false
namespace Go.Proofs.YtanioobepfllgaaGreatDoor
open Go Go.RowKit Go.Bl

/-- a box that stays -/
structure BoxV where
  g : Nat
  t : TypeId
  v : List Value
/-- the places of the search -/
structure Env where
  w0 : World
  lo : Nat
  C : List BoxV
  gO : Nat
  gU : Nat
  gL : Nat
  gB : Nat
  tO : TypeId
  tL : TypeId
  tB : TypeId
/-- they are apart -/
structure Env.Ok (E : Env) : Prop where
  c : ∀ b ∈ E.C, b.g ≠ E.gO ∧ b.g ≠ E.gU ∧ b.g ≠ E.gL ∧ b.g ≠ E.gB ∧ b.g < E.lo
  ou : E.gO ≠ E.gU
  ol : E.gO ≠ E.gL
  ob : E.gO ≠ E.gB
  ul : E.gU ≠ E.gL
  ub : E.gU ≠ E.gB
  lb : E.gL ≠ E.gB
  ho : E.gO < E.lo ∧ E.w0.heap.size ≤ E.gO
  hu : E.gU < E.lo ∧ E.w0.heap.size ≤ E.gU
  hl : E.gL < E.lo ∧ E.w0.heap.size ≤ E.gL
  hb : E.gB < E.lo ∧ E.w0.heap.size ≤ E.gB
/-- the world while orders are tried: the order so far, what is used, what is found so far -/
structure Inv (E : Env) (n : Nat) (wr : World) (ord T : List Int) (V VB : Value) (lst : Int) (A : Option Addr) (c : Nat) (B : Option Addr) (bst : List Int) : Prop where
  k : ∀ b ∈ E.C, Box wr b.g b.t b.v
  bo : Box wr E.gO E.tO [V]
  ow : Own wr E.lo 3 A c ord
  us : Own wr 0 4 (some ⟨E.gU, 0, none⟩) n (seenN n T)
  bl : Box wr E.gL E.tL [.int .i64 lst]
  bb : Box wr E.gB E.tB [VB]
  sb : Sl wr 0 B bst
  ne : ∀ g, blk B = some g → blk A ≠ some g ∧ E.lo ≤ g ∧ g < wr.heap.size
  gr : E.w0.grownBy wr none
  sz : E.lo ≤ wr.heap.size
variable {E : Env} {n : Nat} {wr w' : World} {ord T : List Int} {V VB : Value} {lst : Int} {A : Option Addr} {c : Nat} {B : Option Addr} {bst : List Int}

theorem Inv.pure (h : Inv E n wr ord T V VB lst A c B bst) (hg : wr.grownBy w' none) : Inv E n w' ord T V VB lst A c B bst :=
  ⟨fun b hb => (h.k b hb).pure hg, h.bo.pure hg, h.ow.pure hg, h.us.pure hg, h.bl.pure hg, h.bb.pure hg, h.sb.pure hg, fun g e => ⟨(h.ne g e).1, (h.ne g e).2.1, Nat.lt_of_lt_of_le (h.ne g e).2.2 hg.size⟩, h.gr.t hg, Nat.le_trans h.sz hg.size⟩

theorem Inv.ablk (h : Inv E n wr ord T V VB lst A c B bst) {x : Nat} (hx : x < E.lo) : blk A ≠ some x := fun e => by have := (h.ow.blk_lt e).1; omega

theorem Inv.bblk (h : Inv E n wr ord T V VB lst A c B bst) {x : Nat} (hx : x < E.lo) : blk B ≠ some x := fun e => by have := (h.ne x e).2.1; omega
/-- a write into a box below lo -/
theorem Inv.keep (h : Inv E n wr ord T V VB lst A c B bst) {x : Nat} (hx : x < E.lo) (hw : E.w0.heap.size ≤ x) (hg : wr.grownBy w' (some x)) :
    Own w' E.lo 3 A c ord ∧ Sl w' 0 B bst ∧ (∀ g, blk B = some g → blk A ≠ some g ∧ E.lo ≤ g ∧ g < w'.heap.size) ∧ E.w0.grownBy w' none ∧ E.lo ≤ w'.heap.size :=
  ⟨h.ow.ne hg (fun g e q => by cases q; exact h.ablk hx e), h.sb.ne hg (fun g e q => by cases q; exact h.bblk hx e), fun g e => ⟨(h.ne g e).1, (h.ne g e).2.1, Nat.lt_of_lt_of_le (h.ne g e).2.2 hg.size⟩, gr_row h.gr hg (fun g e => by cases e; exact hw), Nat.le_trans h.sz hg.size⟩

theorem Inv.useK (h : Inv E n wr ord T V VB lst A c B bst) {x : Nat} (hx : ∀ b ∈ E.C, b.g ≠ x) (hg : wr.grownBy w' (some x)) : ∀ b ∈ E.C, Box w' b.g b.t b.v :=
  fun b hb => (h.k b hb).gr hg (fun e => by cases e; exact hx b hb rfl)

theorem Inv.setU (h : Inv E n wr ord T V VB lst A c B bst) (hE : E.Ok) {i : Nat} {v : Bool} {T' : List Int} (hi : i < n) (hT : (seenN n T).set i v = seenN n T') :
    Inv E n (wr.setCell ⟨E.gU, i, none⟩ (.bool v)) ord T' V VB lst A c B bst := by
  have hg := gr_set (World.grownBy.refl wr (some E.gU)) (p := ⟨E.gU, i, none⟩) (.inl rfl) (.bool v)
  obtain ⟨k1, k2, k3, k4, k5⟩ := h.keep hE.hu.1 hE.hu.2 hg
  have hu := h.us.put (i := i) (j := 0) (x := v) (u := .bool v) (by rw [seenN_len]; exact hi) (by decide) (by rintro c1 rfl; rfl)
  rw [show i * Enc.sz Bool + 0 = i from by rw [show Enc.sz Bool = 1 from rfl]; omega, hT] at hu
  exact ⟨h.useK (fun b hb => (hE.c b hb).2.1) hg, h.bo.gr hg (fun e => by injection e with e; exact hE.ou e.symm), k1, hu, h.bl.gr hg (fun e => by injection e with e; exact hE.ul e), h.bb.gr hg (fun e => by injection e with e; exact hE.ub e), k2, k3, k4, k5⟩

/-- the order is cut -/
theorem Inv.cut {x : Int} (h : Inv E n wr (ord ++ [x]) T V VB lst A c B bst) {gA : Nat} (hA : A = some ⟨gA, 0, none⟩) : Inv E n wr ord T V VB lst A c B bst := by
  subst hA
  have := h.ow.cut (m := ord.length) (by simp)
  rw [List.take_left'] at this
  · exact ⟨h.k, h.bo, this, h.us, h.bl, h.bb, h.sb, h.ne, h.gr, h.sz⟩
  · rfl
/-- another best order, of new memory -/
theorem Inv.best (h : Inv E n wr ord T V VB lst A c B bst) {B' : Option Addr} {b' : List Int} (hs : Sl wr 0 B' b') (hb : ∀ g, blk B' = some g → blk A ≠ some g ∧ E.lo ≤ g ∧ g < wr.heap.size) : Inv E n wr ord T V VB lst A c B' b' :=
  ⟨h.k, h.bo, h.ow, h.us, h.bl, h.bb, hs, hb, h.gr, h.sz⟩

end Go.Proofs.YtanioobepfllgaaGreatDoor

namespace Go.Proofs.YtanioobepfllgaaGreatDoor
open Go Go.RowKit Go.Bl

def InvE (E : Env) (n : Nat) (wr : World) (ord : List Int) (s : List Int × Int) : Prop := ∃ A c B d, s.1.length ≤ d ∧ Inv E n wr ord ord (.slice A ord.length c) (.slice B s.1.length d) s.2 A c B s.1

theorem seen_snoc {n : Nat} {T : List Int} {m : Nat} : (seenN n T).set m true = seenN n (T ++ [(m : Int)]) := by
  apply List.ext_getElem
  · simp [seenN]
  · intro j h1 h2
    rw [List.getElem_set, seenN_get h2, memI_snoc]
    by_cases hj : m = j
    · subst hj; simp
    · rw [if_neg hj, seenN_get]
      have : ¬ ((j : Int) = (m : Int)) := by omega
      simp [this]

theorem seen_back {n : Nat} {T : List Int} {m : Nat} (h : memI T (m : Int) = false) : (seenN n (T ++ [(m : Int)])).set m false = seenN n T := by
  apply List.ext_getElem
  · simp [seenN]
  · intro j h1 h2
    rw [List.getElem_set, seenN_get h2]
    by_cases hj : m = j
    · subst hj; rw [if_pos rfl, h]
    · rw [if_neg hj, seenN_get, memI_snoc]
      have : ¬ ((j : Int) = (m : Int)) := by omega
      simp [this]

end Go.Proofs.YtanioobepfllgaaGreatDoor
