/- Contracts of functions that this seat's laws reach, each: what one call returns and what it leaves in memory; no condition beyond each theorem's own hypotheses. -/
import Derived.Test.YtjodjdjfagjiaaaMeshY
set_option linter.unusedVariables false
set_option linter.unusedSimpArgs false
namespace Go.Proofs.Ytjodjdjfagjiaaa
open Go.RowKit Go.Bl

/-- the mesh that AMesh builds: its box gm, its rows from lo on; w0: the world with the result's box -/
def AMs (b gm lo : Nat) (w0 : World) (N : Int) (A : Option Addr) (c : Nat) (vs : List V3) (B : Option Addr) (d : Nat) (fs : List Fc) (w : World) : Prop :=
  SOut b N w0 w ∧ Cell w gm 0 (.slice A vs.length c) ∧ Cell w gm 1 (.slice B fs.length d) ∧ MOwn w lo A c vs B d fs ∧ (∀ f ∈ fs, inF vs.length f = true)
def AMc (b gm lo : Nat) (w0 : World) : Prop := b < w0.heap.size ∧ w0.heap.size ≤ gm ∧ gm < lo
/-- the mesh that is added: its box gn -/
def NMs (gn lo1 : Nat) (A : Option Addr) (c : Nat) (vs : List V3) (B : Option Addr) (d : Nat) (fs : List Fc) (w : World) : Prop :=
  Cell w gn 0 (.slice A vs.length c) ∧ Cell w gn 1 (.slice B fs.length d) ∧ MOwn w lo1 A c vs B d fs
/-- a row X stands apart from it -/
def Dis (gn : Nat) (A B X : Option Addr) : Prop := ∀ g, blk X = some g → g ≠ gn ∧ blk A ≠ some g ∧ blk B ≠ some g

section
variable {b gm lo : Nat} {w0 w w' : World} {N : Int} {A A' B B' : Option Addr} {c d c' d' : Nat} {vs vs' : List V3} {fs fs' : List Fc}
theorem AMs.pure (h : AMs b gm lo w0 N A c vs B d fs w) (hg : w.grownBy w' none) : AMs b gm lo w0 N A c vs B d fs w' :=
  ⟨h.1.pure hg, h.2.1.gr hg (by simp), h.2.2.1.gr hg (by simp), h.2.2.2.1.gr hg, h.2.2.2.2⟩
theorem AMs.st (h : AMs b gm lo w0 N A c vs B d fs w) (hc : AMc b gm lo w0) {N' : Int} (hs : SOut b N' w w') : AMs b gm lo w0 N' A c vs B d fs w' := by
  obtain ⟨h1, h2, h3, ⟨h4, h5, h6⟩, h7⟩ := h
  obtain ⟨p1, p2, p3⟩ := hc
  exact ⟨h1.trans hs, h2.gr hs.1 (fun e => by injection e; omega), h3.gr hs.1 (fun e => by injection e; omega), ⟨h4.s hs (by omega), h5.s hs (by omega), h6⟩, h7⟩
theorem AMs.oth (h : AMs b gm lo w0 N A c vs B d fs w) (hc : AMc b gm lo w0) {g : Nat} (hg : w.grownBy w' (some g)) (h1 : w0.heap.size ≤ g) (h2 : g ≠ gm) (h3 : blk A ≠ some g) (h4 : blk B ≠ some g) : AMs b gm lo w0 N A c vs B d fs w' := by
  obtain ⟨p1, p2, p3⟩ := hc
  exact ⟨h.1.new p1 hg (fun g' e => by injection e; omega), h.2.1.gr hg (fun e => by injection e; omega), h.2.2.1.gr hg (fun e => by injection e; omega), ⟨h.2.2.2.1.1.ne hg (fun g' e1 e2 => by injection e2 with e2; exact h3 (by rw [e1, e2])), h.2.2.2.1.2.1.ne hg (fun g' e1 e2 => by injection e2 with e2; exact h4 (by rw [e1, e2])), h.2.2.2.1.2.2⟩, h.2.2.2.2⟩
theorem AMs.dis (h : AMs b gm lo w0 N A c vs B d fs w) {gn : Nat} {A1 B1 : Option Addr} (hgn : w.heap.size ≤ gn) (h1 : ∀ g, blk A1 = some g → w.heap.size ≤ g) (h2 : ∀ g, blk B1 = some g → w.heap.size ≤ g) : Dis gn A1 B1 A ∧ Dis gn A1 B1 B :=
  ⟨fun g e => by have := (h.2.2.2.1.1.blk_lt e).2; exact ⟨by omega, fun e => by have := h1 g e; omega, fun e => by have := h2 g e; omega⟩, fun g e => by have := (h.2.2.2.1.2.1.blk_lt e).2; exact ⟨by omega, fun e => by have := h1 g e; omega, fun e => by have := h2 g e; omega⟩⟩
theorem AMs.mono (h : AMs b gm lo w0 N A c vs B d fs w) {N' : Int} (hN : N ≤ N') : AMs b gm lo w0 N' A c vs B d fs w := ⟨h.1.mono hN, h.2⟩
theorem AMs.setF (h : AMs b gm lo w0 N A c vs B d fs w) (hc : AMc b gm lo w0) (hG : Grew B B' w w') (ho : Own w' lo 67 B' d' fs') (hin : ∀ f ∈ fs', inF vs.length f = true) :
    AMs b gm lo w0 N A c vs B' d' fs' (w'.setCell ⟨gm, 1, none⟩ (.slice B' fs'.length d')) := by
  obtain ⟨h1, h2, h3, ⟨h4, h5, h6⟩, h7⟩ := h
  obtain ⟨p1, p2, p3⟩ := hc
  have hgs := gr_set (World.grownBy.refl w' (some gm)) (p := ⟨gm, 1, none⟩) (.inl rfl) (.slice B' fs'.length d')
  have h4' := h4.ne hG.1 (fun g e1 e2 => h6 g e1 e2)
  refine ⟨(h1.new p1 hG.1 (fun g e => by have := (h5.blk_lt e).1; omega)).set p1 p2 _, (h2.grew hG h5 p3).set_ne _ (by decide), (h3.grew hG h5 p3).set_ _, ⟨h4'.ne hgs (fun g e1 e2 => ?_), ho.ne hgs (fun g e1 e2 => ?_), fun g e1 e2 => ?_⟩, hin⟩
  · have := (h4'.blk_lt e1).1; injection e2; omega
  · have := (ho.blk_lt e1).1; injection e2; omega
  · rcases hG.2 with e | e
    · rw [e] at e2; exact h6 g e1 e2
    · rw [e] at e2; injection e2 with e2; have := (h4.blk_lt e1).2; omega
theorem inF_mono {n m : Nat} {f : Fc} (h : inF n f = true) (hn : n ≤ m) : inF m f = true := by
  simp only [inF, inI, Bool.and_eq_true, decide_eq_true_eq] at h ⊢
  omega
theorem AMs.setV (h : AMs b gm lo w0 N A c vs B d fs w) (hc : AMc b gm lo w0) (hG : Grew A A' w w') (ho : Own w' lo 49 A' c' vs') (hle : vs.length ≤ vs'.length) :
    AMs b gm lo w0 N A' c' vs' B d fs (w'.setCell ⟨gm, 0, none⟩ (.slice A' vs'.length c')) := by
  obtain ⟨h1, h2, h3, ⟨h4, h5, h6⟩, h7⟩ := h
  obtain ⟨p1, p2, p3⟩ := hc
  have hgs := gr_set (World.grownBy.refl w' (some gm)) (p := ⟨gm, 0, none⟩) (.inl rfl) (.slice A' vs'.length c')
  have h5' := h5.ne hG.1 (fun g e1 e2 => h6 g e2 e1)
  refine ⟨(h1.new p1 hG.1 (fun g e => by have := (h4.blk_lt e).1; omega)).set p1 p2 _, (h2.grew hG h4 p3).set_ _, (h3.grew hG h4 p3).set_ne _ (by decide), ⟨ho.ne hgs (fun g e1 e2 => ?_), h5'.ne hgs (fun g e1 e2 => ?_), fun g e1 e2 => ?_⟩, fun f hf => inF_mono (h7 f hf) hle⟩
  · have := (ho.blk_lt e1).1; injection e2; omega
  · have := (h5'.blk_lt e1).1; injection e2; omega
  · rcases hG.2 with e | e
    · rw [e] at e1; exact h6 g e1 e2
    · rw [e] at e1; injection e1 with e1; have := (h5.blk_lt e2).2; omega
theorem AMs.take_ (h : AMs b gm lo w0 N A c vs B d fs w) (hc : AMc b gm lo w0) (ho : MOwn w lo A' c' vs' B' d' fs') (hin : ∀ f ∈ fs', inF vs'.length f = true) :
    AMs b gm lo w0 N A' c' vs' B' d' fs' ((w.setCell ⟨gm, 0, none⟩ (.slice A' vs'.length c')).setCell ⟨gm, 1, none⟩ (.slice B' fs'.length d')) := by
  obtain ⟨h1, h2, h3, ⟨h4, h5, h6⟩, h7⟩ := h
  obtain ⟨p1, p2, p3⟩ := hc
  obtain ⟨o1, o2, o3⟩ := ho
  have hgs := gr_set (gr_set (World.grownBy.refl w (some gm)) (p := ⟨gm, 0, none⟩) (.inl rfl) (.slice A' vs'.length c')) (p := ⟨gm, 1, none⟩) (.inl rfl) (.slice B' fs'.length d')
  refine ⟨(h1.set p1 p2 _).set p1 p2 _, (h2.set_ _).set_ne _ (by decide), (h3.set_ne _ (by decide)).set_ _, ⟨o1.ne hgs (fun g e1 e2 => ?_), o2.ne hgs (fun g e1 e2 => ?_), o3⟩, hin⟩
  · have := (o1.blk_lt e1).1; injection e2; omega
  · have := (o2.blk_lt e1).1; injection e2; omega
end
section
variable {gn lo1 : Nat} {w w' : World} {A B X X' : Option Addr} {c d : Nat} {vs : List V3} {fs : List Fc}
theorem NMs.pure (h : NMs gn lo1 A c vs B d fs w) (hg : w.grownBy w' none) : NMs gn lo1 A c vs B d fs w' := ⟨h.1.gr hg (by simp), h.2.1.gr hg (by simp), h.2.2.gr hg⟩
theorem NMs.other (h : NMs gn lo1 A c vs B d fs w) {g : Nat} (hg : w.grownBy w' (some g)) (h1 : g ≠ gn) (h2 : blk A ≠ some g) (h3 : blk B ≠ some g) : NMs gn lo1 A c vs B d fs w' :=
  ⟨h.1.gr hg (fun e => by injection e; omega), h.2.1.gr hg (fun e => by injection e; omega), h.2.2.1.ne hg (fun g' e1 e2 => by injection e2 with e2; exact h2 (by rw [e1, e2])), h.2.2.2.1.ne hg (fun g' e1 e2 => by injection e2 with e2; exact h3 (by rw [e1, e2])), h.2.2.2.2⟩
theorem NMs.set (h : NMs gn lo1 A c vs B d fs w) {lo2 : Nat} {A2 B2 : Option Addr} {c2 d2 : Nat} {vs2 : List V3} {fs2 : List Fc} (ho : MOwn w lo2 A2 c2 vs2 B2 d2 fs2) (hlo : gn < lo2) : NMs gn lo2 A2 c2 vs2 B2 d2 fs2 ((w.setCell ⟨gn, 0, none⟩ (.slice A2 vs2.length c2)).setCell ⟨gn, 1, none⟩ (.slice B2 fs2.length d2)) := by
  have hgs := gr_set (gr_set (World.grownBy.refl w (some gn)) (p := ⟨gn, 0, none⟩) (.inl rfl) (.slice A2 vs2.length c2)) (p := ⟨gn, 1, none⟩) (.inl rfl) (.slice B2 fs2.length d2)
  exact ⟨(h.1.set_ _).set_ne _ (by decide), (h.2.1.set_ne _ (by decide)).set_ _, ho.1.ne hgs (fun g e1 e2 => by have := (ho.1.blk_lt e1).1; injection e2; omega), ho.2.1.ne hgs (fun g e1 e2 => by have := (ho.2.1.blk_lt e1).1; injection e2; omega), ho.2.2⟩
theorem NMs.st (h : NMs gn lo1 A c vs B d fs w) {b : Nat} {N : Int} (hs : SOut b N w w') (h1 : b < gn) (h2 : b < lo1) : NMs gn lo1 A c vs B d fs w' :=
  h.other hs.1 (by omega) (fun e => by have := (h.2.2.1.blk_lt e).1; omega) (fun e => by have := (h.2.2.2.1.blk_lt e).1; omega)
theorem NMs.grew (h : NMs gn lo1 A c vs B d fs w) (hG : Grew X X' w w') (hd : Dis gn A B X) : NMs gn lo1 A c vs B d fs w' := by
  have hg := hG.1
  cases hx : blk X with
  | none => rw [hx] at hg; exact h.pure hg
  | some g => rw [hx] at hg; exact h.other hg (hd g hx).1 (hd g hx).2.1 (hd g hx).2.2
theorem Dis.grew (hd : Dis gn A B X) (hG : Grew X X' w w') (h : NMs gn lo1 A c vs B d fs w) : Dis gn A B X' := by
  intro g hg
  rcases hG.2 with e | e
  · rw [e] at hg; exact hd g hg
  · rw [e] at hg
    injection hg with hg
    subst hg
    have := h.1.lt
    exact ⟨by omega, fun e => by have := (h.2.2.1.blk_lt e).2; omega, fun e => by have := (h.2.2.2.1.blk_lt e).2; omega⟩
end

end Go.Proofs.Ytjodjdjfagjiaaa
