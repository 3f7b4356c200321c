/- Contracts of functions that this seat's laws reach, each: what one call returns and what it leaves in memory; no condition beyond each theorem's own hypotheses. -/
import Derived.Test.YtanioobepfllgaaDoorZqEqStr
import Derived.Test.YtanioobepfllgaaDoorZqLateL
import Derived.Test.YtanioobepfllgaaDoorZqRowsN
set_option linter.unusedVariables false
set_option linter.unusedSimpArgs false
namespace Go.Bl
open Go

theorem blk_ne {g h : Nat} (hne : g ≠ h) : ∀ x, blk (some (⟨g, 0, none⟩ : Addr)) = some x → (some h : Option Nat) ≠ some x := fun x e q => hne (by
  injection q with q
  have e2 : g = x := by simpa [blk] using e
  omega)
section
variable {α : Type} [Enc α] [Flat α] {w w' : World} {lo li : Nat} {eo ei : TypeId} {A : Option Addr} {c : Nat} {raws : List RawS} {ls : List (List α)}
/-- another block has turned -/
theorem RowsN.ne {q : Option Nat} (h : RowsN w lo li eo ei A c raws ls) (hg : w.grownBy w' q) (h1 : ∀ g, blk A = some g → q ≠ some g) (h2 : ∀ i (hi : i < raws.length) g, blk raws[i].A = some g → q ≠ some g) : RowsN w' lo li eo ei A c raws ls :=
  ⟨h.out.ne hg (fun g e => h1 g e), h.len, fun i hi hi2 => ⟨(h.ins i hi hi2).1, (h.ins i hi hi2).2.ne hg (fun g e => h2 i hi g e)⟩, h.dis, h.typ, h.le⟩
omit [Flat α] in

theorem RowsN.nil (w : World) (lo li : Nat) {eo ei : TypeId} (ht : eo ≠ ei) (hle : lo ≤ li) : RowsN w lo li eo ei none 0 [] ([] : List (List α)) :=
  { out := Own.nil _ _ _, len := rfl, typ := ht, le := hle, ins := fun i h => by simp at h, dis := fun i k h => by simp at h }
omit [Flat α] in

theorem RowsN.blkR (h : RowsN w lo li eo ei A c raws ls) {i : Nat} (hi : i < raws.length) {g : Nat} (hg : blk raws[i].A = some g) : li ≤ g ∧ g < w.heap.size := (h.ins i hi (by rw [← h.len]; exact hi)).2.blk_lt hg
/-- behind an append of a row of new memory -/
theorem RowsN.pushR {A' A5 : Option Addr} {c' c5 : Nat} {l5 : List α} (h : RowsN w lo li eo ei A c raws ls) (hr : Own w li ei A5 c5 l5) (hnew : ∀ g, blk A5 = some g → ∀ i (hi : i < raws.length), blk raws[i].A ≠ some g)
    (ho : Own w' lo eo A' c' (raws ++ [⟨A5, l5.length, c5⟩])) (hG : Grew A A' w w') : RowsN w' lo li eo ei A' c' (raws ++ [⟨A5, l5.length, c5⟩]) (ls ++ [l5]) := by
  have hap : ∀ g, blk A = some g → blk A5 ≠ some g := fun g hg => h.out.ne_own hr h.typ hg
  refine ⟨ho, by simp [h.len], fun i h1 h2 => ?_, fun i k hi hk hne g hg => ?_, h.typ, h.le⟩
  · by_cases e : i < raws.length
    · have e2 : i < ls.length := by rw [← h.len]; exact e
      rw [List.getElem_append_left e, List.getElem_append_left e2]
      exact ⟨(h.ins i e e2).1, (h.ins i e e2).2.ne hG.1 fun g hg e3 => h.apart e e3 hg⟩
    · have e2 : i = raws.length := by simp at h1; omega
      subst e2
      rw [List.getElem_append_right (Nat.le_refl _), List.getElem_append_right (by rw [h.len]; exact Nat.le_refl _)]
      simp only [h.len, Nat.sub_self, List.getElem_cons_zero]
      exact ⟨trivial, hr.ne hG.1 fun g hg e3 => hap g e3 hg⟩
  · have get : ∀ j (hj : j < (raws ++ [(⟨A5, l5.length, c5⟩ : RawS)]).length) (x : Nat), blk (raws ++ [(⟨A5, l5.length, c5⟩ : RawS)])[j].A = some x → (∃ h : j < raws.length, blk raws[j].A = some x) ∨ (j = raws.length ∧ blk A5 = some x) := by
      intro j hj x hx
      by_cases e : j < raws.length
      · rw [List.getElem_append_left e] at hx; exact .inl ⟨e, hx⟩
      · have e2 : j = raws.length := by simp at hj; omega
        subst e2
        rw [List.getElem_append_right (Nat.le_refl _)] at hx
        simp only [Nat.sub_self, List.getElem_cons_zero] at hx
        exact .inr ⟨rfl, hx⟩
    intro e3
    rcases get i hi g hg with ⟨e1, e2⟩ | ⟨e1, e2⟩
    · rcases get k hk g e3 with ⟨e4, e5⟩ | ⟨e4, e5⟩
      · exact h.dis i k e1 e4 hne g e2 e5
      · exact hnew g e5 i e1 e2
    · rcases get k hk g e3 with ⟨e4, e5⟩ | ⟨e4, e5⟩
      · exact hnew g e2 k e4 e5
      · exact hne (e1.trans e4.symm)
end

end Go.Bl
namespace Go.Proofs.YtanioobepfllgaaDoor
open Go Go.RowKit Go.Bl

/-- where the planner's things lie -/
structure PEnv where
  w0 : World
  lo : Nat
  gb : Nat
  gp : Nat
  gs : Nat
  P : Option Addr
  cp : Nat
  J : Option Addr
  cj : Nat
  p : List Prn
  j : List Jb
  ch : Int

structure PEnv.Ok (E : PEnv) : Prop where
  hb : E.w0.heap.size ≤ E.gb ∧ E.gb < E.lo
  hp : E.w0.heap.size ≤ E.gp ∧ E.gp < E.lo
  hs : E.w0.heap.size ≤ E.gs ∧ E.gs < E.lo
  bp : E.gb ≠ E.gp
  bs : E.gb ≠ E.gs
  ps : E.gp ≠ E.gs

def PV (E : PEnv) (VB : Value) (l s : Int) : List Value := [.slice E.P E.p.length E.cp, .slice E.J E.j.length E.cj, .int .i64 E.ch, .slice (some ⟨E.gp, 0, none⟩) E.p.length E.p.length, .slice (some ⟨E.gs, 0, none⟩) E.j.length E.j.length, VB, .int .i64 l, .int .i64 s]
/-- the planner while it tries: a plan, the jobs that are used, the best plan so far -/
structure InvP (E : PEnv) (wr : World) (Q : List (List Int)) (T : List Int) (raws : List RawS) (B : Option Addr) (d : Nat) (rB : List RawS) (R : List (List Int)) (VB : Value) (l s : Int) : Prop where
  bx : Box wr E.gb 67 (PV E VB l s)
  rw : RowsN wr E.w0.heap.size E.lo 22 3 (some ⟨E.gp, 0, none⟩) E.p.length raws Q
  us : Own wr E.w0.heap.size 4 (some ⟨E.gs, 0, none⟩) E.j.length (seenN E.j.length T)
  bs : RowsN wr E.lo E.lo 22 3 B d rB R
  di : ∀ i k (hi : i < rB.length) (hk : k < raws.length) g, blk rB[i].A = some g → blk raws[k].A ≠ some g
  gr : E.w0.grownBy wr none
  sz : E.lo ≤ wr.heap.size
section
variable {E : PEnv} {wr w' : World} {Q : List (List Int)} {T : List Int} {raws : List RawS} {B : Option Addr} {d : Nat} {rB : List RawS} {R : List (List Int)} {VB : Value} {l s : Int}

theorem InvP.pure (h : InvP E wr Q T raws B d rB R VB l s) (hg : wr.grownBy w' none) : InvP E w' Q T raws B d rB R VB l s :=
  ⟨h.bx.pure hg, h.rw.pure hg, h.us.pure hg, h.bs.pure hg, h.di, h.gr.t hg, Nat.le_trans h.sz hg.size⟩

theorem InvP.rlt (h : InvP E wr Q T raws B d rB R VB l s) {i x : Nat} (hi : i < raws.length) (hx : x < E.lo) : blk raws[i].A ≠ some x := fun e => by have := (h.rw.blkR hi e).1; omega

theorem InvP.blt (h : InvP E wr Q T raws B d rB R VB l s) {x : Nat} (hx : x < E.lo) : blk B ≠ some x := fun e => by have := (h.bs.out.blk_lt e).1; omega

theorem InvP.brt (h : InvP E wr Q T raws B d rB R VB l s) {i x : Nat} (hi : i < rB.length) (hx : x < E.lo) : blk rB[i].A ≠ some x := fun e => by have := (h.bs.blkR hi e).1; omega
/-- a write below lo -/
theorem InvP.bsl (h : InvP E wr Q T raws B d rB R VB l s) {x : Nat} (hx : x < E.lo) (hg : wr.grownBy w' (some x)) : RowsN w' E.lo E.lo 22 3 B d rB R :=
  h.bs.ne hg (fun g e q => h.blt hx (e.trans q.symm)) (fun i hi g e q => h.brt hi hx (e.trans q.symm))

theorem InvP.rwl (h : InvP E wr Q T raws B d rB R VB l s) {x : Nat} (hx : x < E.lo) (hne : E.gp ≠ x) (hg : wr.grownBy w' (some x)) : RowsN w' E.w0.heap.size E.lo 22 3 (some ⟨E.gp, 0, none⟩) E.p.length raws Q :=
  h.rw.ne hg (blk_ne hne) (fun i hi g e q => h.rlt hi hx (e.trans q.symm))

theorem InvP.setU (h : InvP E wr Q T raws B d rB R VB l s) (hE : E.Ok) {i : Nat} {v : Bool} {T' : List Int} (hi : i < E.j.length) (hT : (seenN E.j.length T).set i v = seenN E.j.length T') :
    InvP E (wr.setCell ⟨E.gs, i, none⟩ (.bool v)) Q T' raws B d rB R VB l s := by
  have hg := gr_set (World.grownBy.refl wr (some E.gs)) (p := ⟨E.gs, i, none⟩) (.inl rfl) (.bool v)
  have hu := h.us.put (i := i) (j := 0) (x := v) (u := .bool v) (by rw [seenN_len]; exact hi) (by decide) (by rintro c1 rfl; rfl)
  rw [show i * Enc.sz Bool + 0 = i from by rw [show Enc.sz Bool = 1 from rfl]; omega, hT] at hu
  exact ⟨h.bx.gr hg (fun e => by injection e with e; exact hE.bs e.symm), h.rwl hE.hs.2 hE.ps hg, hu, h.bsl hE.hs.2 hg, h.di, gr_row h.gr hg (fun g e => by cases e; exact hE.hs.1), Nat.le_trans h.sz hg.size⟩
/-- a row of the plan is another one -/
theorem InvP.put (h : InvP E wr Q T raws B d rB R VB l s) (hE : E.Ok) {k : Nat} (hk : k < raws.length) {A5 : Option Addr} {c5 : Nat} {l5 : List Int} (ho : Own w' E.lo 3 A5 c5 l5) (hG : Grew raws[k].A A5 wr w') :
    InvP E (w'.setCell ⟨E.gp, k, none⟩ (.slice A5 l5.length c5)) (Q.set k l5) T (raws.set k ⟨A5, l5.length, c5⟩) B d rB R VB l s := by
  have hr := h.rw.put hk ho hG
  have hb1 := h.bx.gr hG.1 (fun e => h.rlt hk hE.hb.2 e)
  have hu1 := h.us.ne hG.1 (fun g e q => h.rlt hk hE.hs.2 (by rw [q, ← e]; rfl))
  have hs1 := h.bs.ne hG.1 (fun g e q => h.bs.out.ne_own (h.rw.ins k hk (by rw [← h.rw.len]; exact hk)).2 h.rw.typ e q) (fun i hi g e q => h.di i k hi hk g e q)
  have hg1 : E.w0.grownBy w' none := gr_row h.gr hG.1 (fun g e => by have := (h.rw.blkR hk e).1; have := hE.hb; omega)
  have hg := gr_set (World.grownBy.refl w' (some E.gp)) (p := ⟨E.gp, k, none⟩) (.inl rfl) (.slice A5 l5.length c5)
  refine ⟨hb1.gr hg (fun e => by injection e with e; exact hE.bp e.symm), hr, hu1.ne hg (blk_ne (Ne.symm hE.ps)), hs1.ne hg (fun g e q => h.blt hE.hp.2 (e.trans q.symm)) (fun i hi g e q => h.brt hi hE.hp.2 (e.trans q.symm)), fun i m hi hm g e => ?_, gr_row hg1 hg (fun g e => by cases e; exact hE.hp.1), Nat.le_trans h.sz (Nat.le_trans hG.1.size hg.size)⟩
  rw [List.length_set] at hm
  rw [List.getElem_set]
  by_cases e1 : k = m
  · subst e1
    rw [if_pos rfl]
    rcases hG.2 with e2 | e2
    · show blk A5 ≠ some g
      rw [e2]; exact h.di i k hi hk g e
    · show blk A5 ≠ some g
      rw [e2]
      intro e3
      injection e3 with e3
      have := (h.bs.blkR hi e).2
      omega
  · rw [if_neg e1]
    exact h.di i m hi hm g e
/-- a field of the planner is another one -/
theorem InvP.setF (h : InvP E wr Q T raws B d rB R VB l s) (hE : E.Ok) (i : Nat) (v : Value) {VB' : Value} {l' s' : Int} (hi : i < 8) (hv : (PV E VB l s).set i v = PV E VB' l' s') : InvP E (wr.setCell ⟨E.gb, i, none⟩ v) Q T raws B d rB R VB' l' s' := by
  have hg := gr_set (World.grownBy.refl wr (some E.gb)) (p := ⟨E.gb, i, none⟩) (.inl rfl) v
  have hb := h.bx.set_ i v hi
  rw [hv] at hb
  exact ⟨hb, h.rwl hE.hb.2 (Ne.symm hE.bp) hg, h.us.ne hg (blk_ne (Ne.symm hE.bs)), h.bsl hE.hb.2 hg, h.di, gr_row h.gr hg (fun g e => by cases e; exact hE.hb.1), Nat.le_trans h.sz hg.size⟩
/-- no best one any more -/
theorem InvP.noB (h : InvP E wr Q T raws B d rB R VB l s) : InvP E wr Q T raws none 0 [] [] VB l s :=
  ⟨h.bx, h.rw, h.us, RowsN.nil _ _ _ (by decide) (Nat.le_refl _), fun i k hi => by simp at hi, h.gr, h.sz⟩
/-- the best one has one more row -/
theorem InvP.pushB (h : InvP E wr Q T raws B d rB R VB l s) (hE : E.Ok) {A5 : Option Addr} {c5 : Nat} {l5 : List Int} (hr : Own wr E.lo 3 A5 c5 l5) (hnew : ∀ g, blk A5 = some g → (∀ i (hi : i < rB.length), blk rB[i].A ≠ some g) ∧ ∀ i (hi : i < raws.length), blk raws[i].A ≠ some g)
    {B' : Option Addr} {d' : Nat} (ho : Own w' E.lo 22 B' d' (rB ++ [⟨A5, l5.length, c5⟩])) (hG : Grew B B' wr w') : InvP E w' Q T raws B' d' (rB ++ [⟨A5, l5.length, c5⟩]) (R ++ [l5]) VB l s := by
  have hx : ∀ x, x < E.lo → blk B ≠ some x := fun x hx => h.blt hx
  refine ⟨h.bx.gr hG.1 (hx _ hE.hb.2), h.rw.ne hG.1 (fun g e q => hx _ hE.hp.2 (by rw [q, ← e]; rfl)) (fun i hi g e q => ?_), h.us.ne hG.1 (fun g e q => hx _ hE.hs.2 (by rw [q, ← e]; rfl)), h.bs.pushR hr (fun g e => (hnew g e).1) ho hG, fun i k hi hk g e => ?_, gr_row h.gr hG.1 (fun g e => by have := (h.bs.out.blk_lt e).1; have := hE.hb; omega), Nat.le_trans h.sz hG.1.size⟩
  · exact h.bs.out.ne_own (h.rw.ins i hi (by rw [← h.rw.len]; exact hi)).2 h.rw.typ q e
  · by_cases e1 : i < rB.length
    · rw [List.getElem_append_left e1] at e
      exact h.di i k e1 hk g e
    · have e2 : i = rB.length := by simp at hi; omega
      subst e2
      rw [List.getElem_append_right (Nat.le_refl _)] at e
      simp only [Nat.sub_self, List.getElem_cons_zero] at e
      exact (hnew g e).2 k hk
end
/-- what the best plan so far is -/
def StP (E : PEnv) (bo : Option (List (List Int))) (B : Option Addr) (R : List (List Int)) (l s : Int) : Prop :=
  match bo with
  | none => B = none ∧ R = [] ∧ l = 0 ∧ s = 0
  | some X => R = X ∧ X.length = E.p.length ∧ (∃ ad, B = some ad) ∧ l = lstP E.p E.j E.ch X ∧ s = sumP E.p E.j E.ch X

def InvQ (E : PEnv) (wr : World) (Q : List (List Int)) (bo : Option (List (List Int))) : Prop := ∃ raws B d rB R l s, R.length ≤ d ∧ StP E bo B R l s ∧ InvP E wr Q Q.flatten raws B d rB R (.slice B R.length d) l s

end Go.Proofs.YtanioobepfllgaaDoor
