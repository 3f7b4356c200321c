/- Contracts of functions that this seat's laws reach, each: what one call returns and what it leaves in memory; no condition beyond each theorem's own hypotheses. -/
import Derived.Test.YtjodjdjfagjiaaaQ1
import Derived.Test.YtjodjdjfagjiaaaQ4
import Derived.Test.YtjodjdjfagjiaaaQ3
import Derived.Lib.AppendZerosOnto
import Derived.Lib.SliceRun
import Derived.Lib.AppendStr
import Derived.Test.YtjodjdjfagjiaaaQ2
import Derived.Test.YtjodjdjfagjiaaaRows
set_option linter.unusedVariables false
set_option linter.unusedSimpArgs false
namespace Go.Bl
open Go

def VOneG (α : Type) [Enc α] (lo2 : Nat) (u : α) : Value → World → Prop := fun v w => ∃ g : Nat, v = .slice (some ⟨g, 0, none⟩) 1 1 ∧ Sl w lo2 (some ⟨g, 0, none⟩) [u]
theorem VOneG.stab {α : Type} [Enc α] {lo2 : Nat} {u : α} {p : Nat → Prop} {v : Value} {w w' : World} (h : VOneG α lo2 u v w) (hw : Wrt p w w') (hp : ∀ g, p g → g < lo2) : VOneG α lo2 u v w' := let ⟨g, h1, h2⟩ := h; ⟨g, h1, h2.wrt hw hp⟩
def VGp (α : Type) [Enc α] (e : TypeId) (lo n1 : Nat) (l : List α) (u : α) : Value → World → Prop := fun v w => ∃ (A : Option Addr) (c : Nat), v = .slice A (n1 + 1) c ∧ Own w lo e A c (l ++ [u])
theorem VGp.stab {α : Type} [Enc α] {e : TypeId} {lo n1 : Nat} {l : List α} {u : α} {q : Nat → Prop} {v : Value} {w w' : World} (h : VGp α e lo n1 l u v w) (hw : Wrt q w w') (hq : ∀ g, q g → g < lo) : VGp α e lo n1 l u v w' := let ⟨A, c, h1, h2⟩ := h; ⟨A, c, h1, h2.wrt hw hq⟩
/-- what the reads rest on stands -/
structure GpR (R : World → Prop) (gm off : Nat) (Aq : Option Addr) : Prop where
  pure : ∀ w w', R w → w.grownBy w' none → R w'
  app : ∀ w w' A5, R w → Grew Aq A5 w w' → R w'
  set : ∀ w v, R w → R (w.setCell ⟨gm, off, none⟩ v)
def GpI (α : Type) [Enc α] (ap st : Nat) (e : TypeId) (gm off lo lo2 n1 cq : Nat) (Aq : Option Addr) (lq : List α) (uq : α) (R : World → Prop) (m : Nat → Bool) (_ : Nat) (w : World) : Prop :=
  R w ∧ lo2 ≤ w.heap.size ∧ (m ap = false → Own w lo e Aq cq lq) ∧ (m st = false → Cell w gm off (.slice Aq n1 cq)) ∧
    (m st = true → ∃ (A : Option Addr) (c : Nat), Cell w gm off (.slice A (n1 + 1) c) ∧ Own w lo e A c (lq ++ [uq]))
section
variable {α : Type} [Enc α] {ap st : Nat} {e : TypeId} {gm off lo lo2 n1 cq k : Nat} {Aq : Option Addr} {lq : List α} {uq : α} {R : World → Prop} {m : Nat → Bool} {w w' : World}
theorem GpI.same (h : GpI α ap st e gm off lo lo2 n1 cq Aq lq uq R m k w) {j : Nat} (h1 : (ap == j) = false) (h2 : (st == j) = false) : GpI α ap st e gm off lo lo2 n1 cq Aq lq uq R (setm m j) k w := by
  unfold GpI
  rw [setm_ne h1, setm_ne h2]
  exact h
theorem GpI.pure (h : GpI α ap st e gm off lo lo2 n1 cq Aq lq uq R m k w) (hR : GpR R gm off Aq) (hg : w.grownBy w' none) : GpI α ap st e gm off lo lo2 n1 cq Aq lq uq R m k w' := by
  obtain ⟨h1, h2, h3, h4, h5⟩ := h
  exact ⟨hR.pure _ _ h1 hg, Nat.le_trans h2 hg.size, fun h => (h3 h).pure hg, fun h => (h4 h).gr hg (by simp), fun h => let ⟨A, c, a, b⟩ := h5 h; ⟨A, c, a.gr hg (by simp), b.pure hg⟩⟩
theorem GpI.app (h : GpI α ap st e gm off lo lo2 n1 cq Aq lq uq R m k w) (hR : GpR R gm off Aq) (hlo : gm < lo) (hne : (st == ap) = false) (ms : m st = false) {A5 : Option Addr} (hG : Grew Aq A5 w w') (ho : Own w lo e Aq cq lq) : GpI α ap st e gm off lo lo2 n1 cq Aq lq uq R (setm m ap) k w' := by
  obtain ⟨h1, h2, h3, h4, h5⟩ := h
  refine ⟨hR.app _ _ _ h1 hG, Nat.le_trans h2 hG.1.size, ?_, ?_, ?_⟩
  · intro h; rw [setm_eq] at h; cases h
  · intro _; exact (h4 ms).gr hG.1 (fun e => by have := (ho.blk_lt e).1; omega)
  · intro h; rw [setm_ne hne, ms] at h; cases h
theorem GpI.fin [Flat α] (h : GpI α ap st e gm off lo lo2 n1 cq Aq lq uq R m k w) (hR : GpR R gm off Aq) (hlo : gm < lo) (hne : (ap == st) = false) {v0 : Value} (c : Cell w gm off v0) {A : Option Addr} {d : Nat} (ho : Own w lo e A d (lq ++ [uq])) : GpI α ap st e gm off lo lo2 n1 cq Aq lq uq R (setm m st) k (w.setCell ⟨gm, off, none⟩ (.slice A (n1 + 1) d)) := by
  obtain ⟨h1, h2, h3, h4, h5⟩ := h
  have hg := gr_set (World.grownBy.refl w (some gm)) (p := ⟨gm, off, none⟩) (.inl rfl) (.slice A (n1 + 1) d)
  have hn : ∀ {B : Option Addr} {c : Nat} {l : List α}, Own w lo e B c l → ∀ g, blk B = some g → some gm ≠ some g := fun h g e1 e2 => by have := (h.blk_lt e1).1; injection e2; omega
  refine ⟨hR.set _ _ h1, by rw [heap_set]; exact h2, ?_, ?_, ?_⟩
  · intro h; rw [setm_ne hne] at h; exact (h3 h).ne hg (hn (h3 h))
  · intro h; rw [setm_eq] at h; cases h
  · intro _; exact ⟨A, d, c.set_ _, ho.ne hg (hn ho)⟩
end
end Go.Bl

namespace Go.Proofs.Ytjodjdjfagjiaaa
open Go.RowKit Go.Bl

/-- the used vertices among the first k -/
def keepTo (vs : List V3) (U : List Bool) : Nat → List V3
  | 0 => []
  | k + 1 => keepTo vs U k ++ (if U.getD k false then [vs.getD k default] else [])
theorem keepTo_len (vs : List V3) (U : List Bool) (k : Nat) : (keepTo vs U k).length ≤ k := by
  induction k with
  | zero => simp [keepTo]
  | succ k ih => unfold keepTo; rw [List.length_append]; split <;> simp <;> omega
theorem keepTo_yes {vs : List V3} {U : List Bool} {k : Nat} (hv : k < vs.length) (hu : k < U.length) (h : U[k] = true) : keepTo vs U (k + 1) = keepTo vs U k ++ [vs[k]] := by
  conv => lhs; unfold keepTo
  rw [List.getD_eq_getElem?_getD, List.getElem?_eq_getElem hu, Option.getD_some, if_pos h, List.getD_eq_getElem?_getD, List.getElem?_eq_getElem hv, Option.getD_some]
theorem keepTo_no {vs : List V3} {U : List Bool} {k : Nat} (hu : k < U.length) (h : U[k] = false) : keepTo vs U (k + 1) = keepTo vs U k := by
  conv => lhs; unfold keepTo
  rw [List.getD_eq_getElem?_getD, List.getElem?_eq_getElem hu, Option.getD_some, if_neg (by rw [h]; simp), List.append_nil]
/-- the new number of a vertex -/
def rkI (vs : List V3) (U : List Bool) (i : Nat) : Int := (keepTo vs U i).length
def renum (vs : List V3) (U : List Bool) (f : Fc) : Fc := ⟨rkI vs U f.a.toNat, rkI vs U f.b.toNat, rkI vs U f.c.toNat⟩
/-- a mesh without the vertices that no face has -/
def trimM (m : MeshV) : MeshV := ⟨keepTo m.vs (useL m.vs.length m.fs) m.vs.length, m.fs.map (renum m.vs (useL m.vs.length m.fs))⟩
/-- the numbers that are set, behind k rounds -/
def numTo (vs : List V3) (U : List Bool) : Nat → List Int
  | 0 => List.replicate vs.length 0
  | k + 1 => if U.getD k false then (numTo vs U k).set k (rkI vs U k) else numTo vs U k
theorem numTo_len (vs : List V3) (U : List Bool) (k : Nat) : (numTo vs U k).length = vs.length := by
  induction k with
  | zero => simp [numTo]
  | succ k ih => unfold numTo; split <;> simp [ih]
theorem numTo_at {vs : List V3} {U : List Bool} : ∀ {k i : Nat} (hi : i < k) (hv : i < (numTo vs U k).length) (hu : U.getD i false = true), (numTo vs U k)[i] = rkI vs U i
  | 0, i, hi, _, _ => by omega
  | k + 1, i, hi, hv, hu => by
    by_cases h : U.getD k false = true
    · have e : numTo vs U (k + 1) = (numTo vs U k).set k (rkI vs U k) := by conv => lhs; unfold numTo; rw [if_pos h]
      simp only [e]
      rw [List.getElem_set]
      by_cases hk : k = i
      · subst hk; simp
      · rw [if_neg hk]; exact numTo_at (by omega) _ hu
    · have e : numTo vs U (k + 1) = numTo vs U k := by conv => lhs; unfold numTo; rw [if_neg h]
      simp only [e]
      have : i ≠ k := by rintro rfl; exact h hu
      exact numTo_at (by omega) _ hu

theorem numTo_yes {vs : List V3} {U : List Bool} {k : Nat} (hu : k < U.length) (h : U[k] = true) : numTo vs U (k + 1) = (numTo vs U k).set k (rkI vs U k) := by
  conv => lhs; unfold numTo
  rw [List.getD_eq_getElem?_getD, List.getElem?_eq_getElem hu, Option.getD_some, if_pos h]
theorem numTo_no {vs : List V3} {U : List Bool} {k : Nat} (hu : k < U.length) (h : U[k] = false) : numTo vs U (k + 1) = numTo vs U k := by
  conv => lhs; unfold numTo
  rw [List.getD_eq_getElem?_getD, List.getElem?_eq_getElem hu, Option.getD_some, if_neg (by rw [h]; simp)]

end Go.Proofs.Ytjodjdjfagjiaaa

namespace Go.Proofs.Ytjodjdjfagjiaaa
open Go.RowKit Go.Bl

theorem useL_hit {n : Nat} {fs : List Fc} {f : Fc} (hf : f ∈ fs) {i : Nat} (hi : i < n) (h : f.a = i ∨ f.b = i ∨ f.c = i) : (useL n fs).getD i false = true := by
  have hl := useL_len n fs
  rw [List.getD_eq_getElem?_getD, List.getElem?_eq_getElem (by omega), Option.getD_some, useL_at, List.any_eq_true]
  exact ⟨f, hf, by rcases h with h | h | h <;> simp [hasI, h]⟩
theorem num_hit {vs : List V3} {fs : List Fc} {f : Fc} (hf : f ∈ fs) {i : Nat} (hi : i < vs.length) (h : f.a = i ∨ f.b = i ∨ f.c = i) (hl : i < (numTo vs (useL vs.length fs) vs.length).length) : (numTo vs (useL vs.length fs) vs.length)[i] = rkI vs (useL vs.length fs) i :=
  numTo_at hi hl (useL_hit hf hi h)
/-- what stands while trimmed gathers -/
def TrR (Wa : World) (gm gu gn n : Nat) (U : List Bool) (NL : List Int) (wx : World) : Prop :=
  Wa.grownBy wx none ∧ Cell wx gm 1 (.slice none 0 0) ∧ Own wx 0 4 (some ⟨gu, 0, none⟩) n U ∧ Own wx 0 3 (some ⟨gn, 0, none⟩) n NL
theorem TrR.ok {Wa : World} {gm gu gn n lo : Nat} {U : List Bool} {NL : List Int} {Aq : Option Addr} (h1 : Wa.heap.size ≤ gm) (h2 : gm < lo) (h3 : gu < lo) (h4 : gn < lo) (h5 : gu ≠ gm) (h6 : gn ≠ gm) (hA : ∀ g, blk Aq = some g → lo ≤ g) : GpR (TrR Wa gm gu gn n U NL) gm 0 Aq where
  pure := fun w w' ⟨a, b, c, d⟩ hg => ⟨gr_trans a hg, b.gr hg (by simp), c.pure hg, d.pure hg⟩
  app := fun w w' A5 ⟨a, b, c, d⟩ hG => by
    refine ⟨gr_row a hG.1 (fun g e => by have := hA g e; omega), b.gr hG.1 (fun e => by have := hA _ e; omega), c.ne hG.1 (fun g e1 e2 => ?_), d.ne hG.1 (fun g e1 e2 => ?_)⟩
    · simp only [blk, Option.map_some, Option.some.injEq] at e1; have := hA g e2; omega
    · simp only [blk, Option.map_some, Option.some.injEq] at e1; have := hA g e2; omega
  set := fun w v ⟨a, b, c, d⟩ => by
    have hg := gr_set (World.grownBy.refl w (some gm)) (p := ⟨gm, 0, none⟩) (.inl rfl) v
    refine ⟨gr_set a (.inr h1) v, b.set_ne _ (by decide), c.ne hg (fun g e1 e2 => ?_), d.ne hg (fun g e1 e2 => ?_)⟩
    · simp only [blk, Option.map_some, Option.some.injEq] at e1; injection e2; omega
    · simp only [blk, Option.map_some, Option.some.injEq] at e1; injection e2; omega

/-- what stands while trimmed's faces are gathered -/
def TrF (Wa : World) (gm gn lo gb : Nat) (Av : Option Addr) (cv n : Nat) (V : List V3) (NL : List Int) (x y z : Value) (wx : World) : Prop :=
  Wa.grownBy wx none ∧ Cell wx gm 0 (.slice Av V.length cv) ∧ Own wx lo 49 Av cv V ∧ Own wx 0 3 (some ⟨gn, 0, none⟩) n NL ∧ Cell wx gb 0 x ∧ Cell wx gb 1 y ∧ Cell wx gb 2 z
theorem TrF.ok {Wa : World} {gm gn n lo lo3 gb cv : Nat} {Av Bq : Option Addr} {V : List V3} {NL : List Int} {x y z : Value} (h1 : Wa.heap.size ≤ gm) (h2 : gm < lo) (h4 : gn < lo) (h6 : gn ≠ gm) (h7 : lo3 ≤ gb) (h8 : lo ≤ lo3) (hV : ∀ g, blk Av = some g → g < lo3) (hA : ∀ g, blk Bq = some g → lo3 ≤ g ∧ g < gb) : GpR (TrF Wa gm gn lo gb Av cv n V NL x y z) gm 1 Bq where
  pure := fun w w' ⟨a, b, c, d, e0, e1, e2⟩ hg => ⟨gr_trans a hg, b.gr hg (by simp), c.pure hg, d.pure hg, e0.gr hg (by simp), e1.gr hg (by simp), e2.gr hg (by simp)⟩
  app := fun w w' A5 ⟨a, b, c, d, e0, e1, e2⟩ hG => by
    have hb : blk Bq ≠ some gb := fun e => by have := hA _ e; omega
    refine ⟨gr_row a hG.1 (fun g e => by have := hA g e; omega), b.gr hG.1 (fun e => by have := hA _ e; omega), c.ne hG.1 (fun g e1 e2 => ?_), d.ne hG.1 (fun g e1 e2 => ?_), e0.gr hG.1 hb, e1.gr hG.1 hb, e2.gr hG.1 hb⟩
    · have := hA g e2; have := hV g e1; omega
    · simp only [blk, Option.map_some, Option.some.injEq] at e1; have := hA g e2; omega
  set := fun w v ⟨a, b, c, d, e0, e1, e2⟩ => by
    have hg := gr_set (World.grownBy.refl w (some gm)) (p := ⟨gm, 1, none⟩) (.inl rfl) v
    have hb : some gm ≠ some gb := fun e => by injection e; omega
    refine ⟨gr_set a (.inr h1) v, b.set_ne _ (by decide), c.ne hg (fun g e1 e2 => ?_), d.ne hg (fun g e1 e2 => ?_), e0.gr hg hb, e1.gr hg hb, e2.gr hg hb⟩
    · have := (c.blk_lt e1).1; injection e2; omega
    · simp only [blk, Option.map_some, Option.some.injEq] at e1; injection e2; omega

set_option maxHeartbeats 4000000 in
set_option maxRecDepth 100000 in
theorem trimmed_any (A : Option Addr) (c : Nat) (vs : List V3) (B : Option Addr) (d : Nat) (fs : List Fc) (w : World) (hl : Sl w 0 A vs) (hfs : Sl w 0 B fs) (hin : ∀ f ∈ fs, inF vs.length f = true) (hvl : vs.length ≤ 1000) (hfl : fs.length ≤ 2000) :
    Calls Try.prog 80 #[.agg #[.slice A vs.length c, .slice B fs.length d]] w fun e w' => ∃ A' c' B' d', e = .returned (.agg #[.slice A' (trimM ⟨vs, fs⟩).vs.length c', .slice B' (trimM ⟨vs, fs⟩).fs.length d']) ∧ Own w' w.heap.size 49 A' c' (trimM ⟨vs, fs⟩).vs ∧ Own w' w.heap.size 67 B' d' (trimM ⟨vs, fs⟩).fs ∧ w.grownBy w' none := by
  obtain ⟨Wa, hWa⟩ : ∃ Wa, Wa = (w.alloc (.cells #[.slice A vs.length c, .slice B fs.length d] 29)).alloc (.cells #[.slice none 0 0, .slice none 0 0] 29) := ⟨_, rfl⟩
  obtain ⟨W, hW⟩ : ∃ W, W = Wa.alloc (.cells #[.slice none 0 0, .slice none 0 0] 29) := ⟨_, rfl⟩
  have hlt0 : w.heap.size < w.heap.size + 1 := Nat.lt_succ_self _
  have hWas : Wa.heap.size = w.heap.size + 1 + 1 := by rw [hWa]; simp
  have hWs : W.heap.size = w.heap.size + 1 + 1 + 1 := by rw [hW]; simp [hWas]
  have hga : w.grownBy Wa none := by rw [hWa]; exact (by repeat (first | exact World.grownBy.refl _ _ | assumption | refine gr_alloc ?_ _ | (apply gr_tail; assumption) | refine gr_drewN ?_ _ | refine gr_drew ?_))
  have haW : Wa.grownBy W none := by rw [hW]; exact gr_alloc (World.grownBy.refl _ _) _
  have b0 : Wa.cell? ⟨w.heap.size, 0, none⟩ = some (.slice A vs.length c) := by rw [hWa]; go_simp
  have b1 : Wa.cell? ⟨w.heap.size, 1, none⟩ = some (.slice B fs.length d) := by rw [hWa]; go_simp
  have q0 : Cell Wa (w.heap.size + 1) 0 (.slice none 0 0) := by rw [hWa]; exact ⟨by go_simp, by go_simp⟩
  have q1 : Cell Wa (w.heap.size + 1) 1 (.slice none 0 0) := by rw [hWa]; exact ⟨by go_simp, by go_simp⟩
  have m0 : Cell W (w.heap.size + 1 + 1) 0 (.slice none 0 0) := by rw [hW]; exact Cell.new Wa [.slice none 0 0, .slice none 0 0] 29 0 _ rfl _ hWas.symm
  have m1 : Cell W (w.heap.size + 1 + 1) 1 (.slice none 0 0) := by rw [hW]; exact Cell.new Wa [.slice none 0 0, .slice none 0 0] 29 1 _ rfl _ hWas.symm
  rw [hWa] at hW
  replace hW := hide hW.symm
  clear hWa
  obtain ⟨i0, hi, hz, h1, h2⟩ := info_parts info_int
  obtain ⟨w1, hrun, hown, hg1⟩ := run_makeOwn (P := Try.prog) W 22 3 i0 _ (0 : Int) Try.underlying22 hi hz h1 rfl rfl .i64 .i64 vs.length (by rw [h2]; omega) (by simp [maxLen]; omega)
  clear hi hz h1 h2
  replace hin := hide hin
  replace hWs := hide hWs
  replace hWas := hide hWas
  replace hrun := hide hrun
  go_enter Try.func80, Try.ntmps80
  have c0 := hg1.k (haW.k b0)
  have c1 := hg1.k (haW.k b1)
  have hfs1 := (hfs.pure hga).pure (gr_trans haW hg1)
  go_wp2_with fail
  rw [hW.out, hrun.out]
  go_wp2_with fail
  refine (usedGo_any A c vs.length B d fs w1 hfs1 hin.out hvl hfl).mono ?_
  rintro e w2 ⟨gu, rfl, hU, hg2⟩
  go_wp2_with fail
  have hulen := useL_len vs.length fs
  obtain ⟨U, hUd⟩ : ∃ U, U = useL vs.length fs := ⟨_, rfl⟩
  rw [← hUd] at hU hulen
  replace hUd := hide hUd
  have gN : ∃ gn, gn = W.heap.size := ⟨_, rfl⟩
  obtain ⟨gn, hgn⟩ := gN
  rw [← hgn] at hown ⊢
  have hgWw : Wa.grownBy w2 none := gr_trans haW (gr_trans hg1 hg2)
  replace m0 := (m0.gr hg1 (by simp)).gr hg2 (by simp)
  replace m1 := (m1.gr hg1 (by simp)).gr hg2 (by simp)
  have hnumO : Own w2 0 3 (some ⟨gn, 0, none⟩) vs.length (numTo vs U 0) := (hown.pure hg2).lower (Nat.zero_le _)
  have hUo : Own w2 0 4 (some ⟨gu, 0, none⟩) vs.length U := hU.lower (Nat.zero_le _)
  have hgnlt : gn < w1.heap.size := (hown.blk_lt (g := gn) rfl).2
  have hguge := hU.blk_lt (g := gu) rfl
  have hgnge : w.heap.size + 1 + 1 < gn := by have := hWs.out; omega
  clear hown hU hrun hW c0 c1 hfs1
  obtain ⟨gm, hgm⟩ : ∃ gm, gm = w.heap.size + 1 + 1 := ⟨_, rfl⟩
  rw [← hgm] at m0 m1 hgnge ⊢
  obtain ⟨lo, hlo2⟩ : ∃ lo, lo = w2.heap.size := ⟨_, rfl⟩
  have hgulo : gu < lo := by omega
  have hgnlo : gn < lo := by have := hg2.size; omega
  have hgmlo : gm < lo := by omega
  have hgum : gu ≠ gm := by omega
  have hgnm : gn ≠ gm := by omega
  have hgun : gu ≠ gn := by omega
  have hWam : Wa.heap.size ≤ gm := by have := hWas.out; omega
  replace hulen := hide hulen
  go_loopw [17] (fun i wr => ∃ (k : Nat) (Aq : Option Addr) (cq : Nat), k ≤ vs.length ∧ i = .int .i64 k ∧ Own wr lo 49 Aq cq (keepTo vs U k) ∧ Cell wr gm 0 (.slice Aq (keepTo vs U k).length cq) ∧ TrR Wa gm gu gn vs.length U (numTo vs U k) wr ∧ lo ≤ wr.heap.size) (fun i _ => vs.length - (intOf i).toNat)
  case atStart => exact ⟨0, none, 0, by omega, rfl, Own.nil _ _ _, m0, ⟨hgWw, m1, hUo, hnumO⟩, by omega⟩
  case round =>
    obtain ⟨k, Aq, cq, hk, rfl, hown, n0, hT, hlw⟩ := hrel
    clear m0 m1 hUo hnumO
    by_cases hlt : k < vs.length
    · have hku : k < U.length := by rw [hulen.out]; exact hlt
      have u0 := hT.2.2.1.cell_bool hku
      have hkl := keepTo_len vs U k
      cases hub : U[k] with
      | false =>
        have e1 := hide (keepTo_no (vs := vs) hku hub)
        have e2 := hide (numTo_no (vs := vs) hku hub)
        rw [hub] at u0
        clear hub
        go_wp2_with fail
        (go_roundw; (case rel => exact ⟨k + 1, Aq, cq, by omega, by go_num, by rw [e1.out]; exact hown, by rw [e1.out]; exact n0, by rw [e2.out]; exact hT, hlw⟩); (case measure => simp [intOf]; omega))
      | true =>
        have e1 := hide (keepTo_yes hlt hku hub)
        have e2 := hide (numTo_yes (vs := vs) hku hub)
        rw [hub] at u0
        clear hub
        have hkn : k < (numTo vs U k).length := by rw [numTo_len]; exact hlt
        have s0 := hT.2.2.2.cell_int hkn
        have sf := hT.2.2.2.frozen k
        have hn0 := hide n0
        obtain ⟨v0, -⟩ := n0
        rw [hgm] at v0
        rw [hgn] at s0 sf
        have hgn2 : gn < wr.heap.size := by omega
        have hgm2 : gm < wr.heap.size := by omega
        have hTh := hide hT
        have hltN := hlt
        go_upto_region 8 with fail
        rw [← hgn, ← hgm]
        have hgs := gr_set (World.grownBy.refl wr (some gn)) (p := ⟨gn, k, none⟩) (.inl rfl) (.int .i64 (rkI vs U k))
        have hT := hTh.out
        have hT2 : TrR Wa gm gu gn vs.length U (numTo vs U (k + 1)) (wr.setCell ⟨gn, k, none⟩ (.int .i64 (rkI vs U k))) :=
          ⟨gr_set hT.1 (.inr (by simp only; omega)) _, hT.2.1.gr hgs (fun e => by injection e; omega), hT.2.2.1.ne hgs (fun g e1 e2 => by simp only [blk, Option.map_some, Option.some.injEq] at e1; injection e2; omega), by rw [e2.out]; exact hT.2.2.2.set_int k _⟩
        have hown2 := hown.ne hgs (fun g e1 e2 => by have := (hown.blk_lt e1).1; injection e2; omega)
        have n02 := hn0.out.gr hgs (fun e => by injection e; omega)
        have hqA0 : ∀ g, blk Aq = some g → lo ≤ g ∧ g < wr.heap.size := fun g e => hown.blk_lt e
        have hszs : (wr.setCell ⟨gn, k, none⟩ (.int .i64 (rkI vs U k))).heap.size = wr.heap.size := heap_set _ _ _
        clear hown hT hTh hn0 v0 s0 sf u0 hgs
        unfold rkI at *
        generalize (wr.setCell ⟨gn, k, none⟩ (.int .i64 ((keepTo vs U k).length : Int))) = wv at *
        obtain ⟨gv, ov, rfl, -, -, -⟩ := hl.v3 (by omega)
        have hrd0 : ∀ wx, TrR Wa gm gu gn vs.length U (numTo vs U (k + 1)) wx → wx.cell? ⟨w.heap.size, 0, none⟩ = some (.slice (some ⟨gv, ov, none⟩) vs.length c) ∧ wx.cell? ⟨gv, ov + k * 3, none⟩ = some (.int .i64 vs[k].x) ∧ wx.cell? ⟨gv, ov + k * 3 + 1, none⟩ = some (.int .i64 vs[k].y) ∧ wx.cell? ⟨gv, ov + k * 3 + 2, none⟩ = some (.int .i64 vs[k].z) := fun wx hx => by
          obtain ⟨g', o', e, -, -, hcc⟩ := (hl.pure (gr_trans hga hx.1)).v3 (by omega)
          cases e
          exact ⟨hx.1.k b0, hcc k hlt⟩
        have hR0 := TrR.ok (Wa := Wa) (U := U) (n := vs.length) (NL := numTo vs U (k + 1)) (Aq := Aq) hWam hgmlo hgulo hgnlo hgum hgnm (fun g e => (hqA0 g e).1)
        obtain ⟨R, hRd⟩ : ∃ R, R = TrR Wa gm gu gn vs.length U (numTo vs U (k + 1)) := ⟨_, rfl⟩
        rw [← hRd] at hR0 hT2
        simp only [← hRd] at hrd0
        obtain ⟨n1, hn1⟩ : ∃ n1, n1 = (keepTo vs U k).length := ⟨_, rfl⟩
        rw [← hn1] at n02 ⊢
        obtain ⟨lq, hlq⟩ : ∃ lq, lq = keepTo vs U k := ⟨_, rfl⟩
        rw [← hlq] at hown2 hn1 e1 hkl
        obtain ⟨gx, hgx⟩ : ∃ gx, gx = w.heap.size := ⟨_, rfl⟩
        rw [← hgx] at hrd0 ⊢
        obtain ⟨nv, hnv⟩ : ∃ nv, nv = vs.length := ⟨_, rfl⟩
        simp only [← hnv] at hrd0 ⊢
        obtain ⟨ii, hii⟩ : ∃ ii, ii = k := ⟨_, rfl⟩
        obtain ⟨cv, hcv⟩ : ∃ cv, cv = c := ⟨_, rfl⟩
        obtain ⟨uq, huq⟩ : ∃ uq, uq = vs[k] := ⟨_, rfl⟩
        rw [← huq] at hrd0 e1
        simp only [← hii, ← hcv] at hrd0 ⊢
        rw [← hii, ← hnv] at hltN
        obtain ⟨lo2, hlo2d⟩ : ∃ lo2, lo2 = wr.heap.size := ⟨_, rfl⟩
        have hqA : ∀ g, blk Aq = some g → g < lo2 := fun g e => by have := hqA0 g e; omega
        have hlo := hgmlo
        have hq1 : lq.length = n1 := hn1.symm
        have hn1000 : n1 ≤ 1000 := by omega
        have hlolo2 : lo ≤ lo2 := by omega
        have hgmlo2 : gm < lo2 := by omega
        have hI0 : ∀ m : Nat → Bool, m 10 = false → GpI V3 8 10 49 gm 0 lo lo2 n1 cq Aq lq uq R m 0 wv.drew := fun m hm => by
          have hd := gr_drew (World.grownBy.refl wv none)
          exact ⟨hR0.pure _ _ hT2 hd, by show lo2 ≤ wv.heap.size; omega, fun _ => hown2.pure hd, fun _ => n02.gr hd (by simp), fun h => by rw [hm] at h; cases h⟩
        have hrd := hide hrd0
        have hR := hR0
        clear hrd0 hR0 hown2 n02 hT2 hqA0 hszs
        replace hI0 := hide hI0
        replace hq1 := hide hq1
        replace hnv := hide hnv
        replace hii := hide hii
        replace hcv := hide hcv
        replace hgx := hide hgx
        replace hgm := hide hgm
        replace hgn := hide hgn
        replace hlq := hide hlq
        replace hRd := hide hRd
        replace huq := hide huq
        replace hn1 := hide hn1
        replace hlo2d := hide hlo2d
        refine wp_region_minvF (GpI V3 8 10 49 gm 0 lo lo2 n1 cq Aq lq uq R) (fun m => Wrt (fun g => g = gm ∨ (m 8 = false ∧ lo ≤ g ∧ g < lo2))) [VIs (.pointer (some ⟨gm, 0, none⟩)), VIs (.slice Aq n1 cq), VIs (.pointer (some ⟨gx, 0, none⟩)), VIs (.slice (some ⟨gv, ov, none⟩) nv cv), VIs (.int .i64 ii), VIs (.pointer (some ⟨gv, ov + ii * 3, none⟩)), VIs (.agg #[.int .i64 uq.x, .int .i64 uq.y, .int .i64 uq.z]), VOneG V3 lo2 uq, VGp V3 49 lo n1 lq uq, VIs (.pointer (some ⟨gm, 0, none⟩)), (fun _ _ => True)] [0, 0, 0, 0, 0, 0, 0, 0, 0, 0, 0] (by kernel_rfl) (by kernel_rfl) (by intro vs; simp only [putAll, Act.put, List.setIfInBounds_toArray, List.set_cons_zero, List.set_cons_succ, Nat.reduceAdd]; exact rfl) ?iv0 ?iv1 rfl ?iv2 ?iv3
        case iv1 => exact Stab.ok ⟨fun m v w w' _ _ h => h, fun m v w w' _ _ h => h, fun m v w w' _ _ h => h, fun m v w w' _ _ h => h, fun m v w w' _ _ h => h, fun m v w w' _ _ h => h, fun m v w w' _ _ h => h, fun m v w w' _ hw h => h.stab hw (fun g h => by rcases h with h | ⟨_, h1, h2⟩ <;> omega), fun m v w w' hm hw h => h.stab hw (fun g h => by rcases h with h | ⟨h, _⟩ <;> first | omega | (rw [show m 8 = true from hm] at h; cases h)), fun m v w w' _ _ h => h, fun m v w w' _ _ h => h, trivial⟩
        case iv2 =>
          refine MOpsF.op (fun vs wx m k hmj hcl hI hk hf K hK => ?_) ?_
          · clear hf hcl
            replace hK := hide hK
            replace hI := hide hI
            go_wp2_with fail
            replace hK := hK.out (.pointer (some ⟨gm, 0, none⟩))
            simp only [Act.put, List.setIfInBounds_toArray, List.set_cons_zero, List.set_cons_succ, Nat.add_zero] at hK
            exact hK _ ((hI.out.same (by decide) (by decide))) (Wrt.pure (World.grownBy.refl _ _)) (rfl)
          refine MOpsF.op (fun vs wx m k hmj hcl hI hk hf K hK => ?_) ?_
          · have e0 : vs 0 = .pointer (some ⟨gm, 0, none⟩) := hf 0 (by decide) (by kernel_rfl)
            clear hf
            have h10 : m 10 = false := by
              cases hq : m 10 with
              | false => rfl
              | true => exact absurd (hcl 10 1 (by decide) (by decide) hq (by kernel_rfl)) (by rw [show m 1 = false from hmj]; simp)
            have c := (hI.2.2.2.1 h10).1
            clear hcl h10
            replace hK := hide hK
            replace hI := hide hI
            rw [e0]
            replace e0 := hide e0
            go_wp2_with fail
            replace hK := hK.out (.slice Aq n1 cq)
            simp only [Act.put, List.setIfInBounds_toArray, List.set_cons_zero, List.set_cons_succ, e0.out, Nat.add_zero] at hK
            exact hK _ ((hI.out.same (by decide) (by decide))) (Wrt.pure (World.grownBy.refl _ _)) (rfl)
          refine MOpsF.op (fun vs wx m k hmj hcl hI hk hf K hK => ?_) ?_
          · clear hf hcl
            replace hK := hide hK
            replace hI := hide hI
            go_wp2_with fail
            replace hK := hK.out (.pointer (some ⟨gx, 0, none⟩))
            simp only [Act.put, List.setIfInBounds_toArray, List.set_cons_zero, List.set_cons_succ, Nat.add_zero] at hK
            exact hK _ ((hI.out.same (by decide) (by decide))) (Wrt.pure (World.grownBy.refl _ _)) (rfl)
          refine MOpsF.op (fun vs wx m k hmj hcl hI hk hf K hK => ?_) ?_
          · have e2 : vs 2 = .pointer (some ⟨gx, 0, none⟩) := hf 2 (by decide) (by kernel_rfl)
            clear hf hcl
            obtain ⟨c, -⟩ := hrd.out wx hI.1
            replace hK := hide hK
            replace hI := hide hI
            rw [e2]
            replace e2 := hide e2
            go_wp2_with fail
            replace hK := hK.out (.slice (some ⟨gv, ov, none⟩) nv cv)
            simp only [Act.put, List.setIfInBounds_toArray, List.set_cons_zero, List.set_cons_succ, e2.out, Nat.add_zero] at hK
            exact hK _ ((hI.out.same (by decide) (by decide))) (Wrt.pure (World.grownBy.refl _ _)) (rfl)
          refine MOpsF.op (fun vs wx m k hmj hcl hI hk hf K hK => ?_) ?_
          · clear hf hcl
            replace hK := hide hK
            replace hI := hide hI
            go_wp2_with fail
            replace hK := hK.out (.int .i64 ii)
            simp only [Act.put, List.setIfInBounds_toArray, List.set_cons_zero, List.set_cons_succ, Nat.add_zero] at hK
            exact hK _ ((hI.out.same (by decide) (by decide))) (Wrt.pure (World.grownBy.refl _ _)) (rfl)
          refine MOpsF.op (fun vs wx m k hmj hcl hI hk hf K hK => ?_) ?_
          · have e3 : vs 3 = .slice (some ⟨gv, ov, none⟩) nv cv := hf 3 (by decide) (by kernel_rfl)
            have e4 : vs 4 = .int .i64 ii := hf 4 (by decide) (by kernel_rfl)
            clear hf hcl
            replace hK := hide hK
            replace hI := hide hI
            rw [e3, e4]
            replace e3 := hide e3
            replace e4 := hide e4
            go_wp2_with fail
            replace hK := hK.out (.pointer (some ⟨gv, ov + ii * 3, none⟩))
            simp only [Act.put, List.setIfInBounds_toArray, List.set_cons_zero, List.set_cons_succ, e3.out, e4.out, Nat.add_zero] at hK
            exact hK _ ((hI.out.same (by decide) (by decide))) (Wrt.pure (World.grownBy.refl _ _)) (rfl)
          refine MOpsF.op (fun vs wx m k hmj hcl hI hk hf K hK => ?_) ?_
          · have e5 : vs 5 = .pointer (some ⟨gv, ov + ii * 3, none⟩) := hf 5 (by decide) (by kernel_rfl)
            clear hf hcl
            obtain ⟨-, q0, q1, q2⟩ := hrd.out wx hI.1
            replace hK := hide hK
            replace hI := hide hI
            rw [e5]
            replace e5 := hide e5
            go_wp2_with fail
            replace hK := hK.out (.agg #[.int .i64 uq.x, .int .i64 uq.y, .int .i64 uq.z])
            simp only [Act.put, List.setIfInBounds_toArray, List.set_cons_zero, List.set_cons_succ, e5.out, Nat.add_zero] at hK
            exact hK _ ((hI.out.same (by decide) (by decide))) (Wrt.pure (World.grownBy.refl _ _)) (rfl)
          refine MOpsF.op (fun vs wx m k hmj hcl hI hk hf K hK => ?_) ?_
          · have e6 : vs 6 = .agg #[.int .i64 uq.x, .int .i64 uq.y, .int .i64 uq.z] := hf 6 (by decide) (by kernel_rfl)
            clear hf hcl
            replace hK := hide hK
            replace hI := hide hI
            rw [e6]
            replace e6 := hide e6
            go_wp2_with fail
            replace hK := hK.out (.slice (some ⟨wx.heap.size, 0, none⟩) 1 1)
            simp only [Act.put, List.setIfInBounds_toArray, List.set_cons_zero, List.set_cons_succ, e6.out, Nat.add_zero] at hK
            exact hK _ (((hI.out.same (by decide) (by decide)).pure hR (gr_alloc (World.grownBy.refl _ _) _))) (Wrt.pure (gr_alloc (World.grownBy.refl _ _) _)) (⟨wx.heap.size, rfl, sl_oneAt _ _ _ _ _ _ rfl hI.out.2.1 rfl⟩)
          refine MOpsF.op (fun vs wx m k hmj hcl hI hk hf K hK => ?_) ?_
          · have e1 : vs 1 = .slice Aq n1 cq := hf 1 (by decide) (by kernel_rfl)
            obtain ⟨g7, e7, hsl⟩ := hf 7 (by decide) (by kernel_rfl)
            clear hf
            have h10 : m 10 = false := by
              cases hq : m 10 with
              | false => rfl
              | true => exact absurd (hcl 10 8 (by decide) (by decide) hq (by kernel_rfl)) (by rw [show m 8 = false from hmj]; simp)
            have hown := hI.2.2.1 hmj
            obtain ⟨i0, hi, hz, h1, h2⟩ := info_parts info_v3
            replace hK := hide hK
            replace hI := hide hI
            rw [e1, e7]
            replace e1 := hide e1
            replace e7 := hide e7
            refine wp_pushAt (α := V3) _ (.tmp 30) (.tmp 36) _ rfl lo 49 i0 _ 24 Try.underlying26 hi hz h1 h2 rfl _ _ _ lq rfl ?_ hown lo2 ⟨g7, 0, none⟩ 1 1 [uq] rfl ?_ hsl ?_ ?_ ?_ ?_
            · exact hq1.out.symm
            · rfl
            · have := hq1.out; simp; omega
            · have := hq1.out; simp [maxLen]; omega
            · have := hI.out.2.1; omega
            intro A5 c5 w5 hown5 hG5
            simp only [Act.put, List.setIfInBounds_toArray, List.set_cons_zero, List.set_cons_succ]
            replace hK := hK.out (.slice A5 (lq ++ [uq]).length c5)
            simp only [Act.put, List.setIfInBounds_toArray, List.set_cons_zero, List.set_cons_succ, e1.out, e7.out, Nat.add_zero] at hK
            exact hK _ ((hI.out.app hR hlo (by decide) h10 hG5 hown)) (⟨_, hG5.1, fun g e => .inr ⟨hmj, (hown.blk_lt e).1, hqA g e⟩⟩) (⟨A5, c5, by rw [List.length_append, hq1.out]; rfl, hown5⟩)
          refine MOpsF.op (fun vs wx m k hmj hcl hI hk hf K hK => ?_) ?_
          · clear hf hcl
            replace hK := hide hK
            replace hI := hide hI
            go_wp2_with fail
            replace hK := hK.out (.pointer (some ⟨gm, 0, none⟩))
            simp only [Act.put, List.setIfInBounds_toArray, List.set_cons_zero, List.set_cons_succ, Nat.add_zero] at hK
            exact hK _ ((hI.out.same (by decide) (by decide))) (Wrt.pure (World.grownBy.refl _ _)) (rfl)
          refine MOpsF.op (fun vs wx m k hmj hcl hI hk hf K hK => ?_) ?_
          · have e9 : vs 9 = .pointer (some ⟨gm, 0, none⟩) := hf 9 (by decide) (by kernel_rfl)
            obtain ⟨A8, c8, e8, ho8⟩ := hf 8 (by decide) (by kernel_rfl)
            clear hf hcl
            have c := hI.2.2.2.1 hmj
            obtain ⟨c, fz⟩ := c
            have hgs := gr_set (World.grownBy.refl wx (some gm)) (p := ⟨gm, 0, none⟩) (.inl rfl) (.slice A8 (n1 + 1) c8)
            replace hgs := hide hgs
            replace ho8 := hide ho8
            replace hK := hide hK
            replace hI := hide hI
            rw [e9, e8]
            replace e9 := hide e9
            replace e8 := hide e8
            go_wp2_with fail
            replace hK := hK.out (undef)
            simp only [Act.put, List.setIfInBounds_toArray, List.set_cons_zero, List.set_cons_succ, e9.out, e8.out, Nat.add_zero] at hK
            exact hK _ ((hI.out.fin hR hlo (by decide) ⟨c, fz⟩ ho8.out)) (Wrt.one hgs.out (.inl rfl)) (trivial)
          exact MOpsF.done
        case iv0 => exact fun m hm => hI0.out m (hm 10 (by decide))
        case iv3 =>
          intro vs' w9 m hm' hI hf
          have e10 := hm' 10 (by decide)
          obtain ⟨k1, k2, -, -, k5⟩ := hI
          obtain ⟨A9, c9, n9, o9⟩ := k5 e10
          clear hf hm' hI0 e10
          replace hlo := hide hlo
          rw [hRd.out] at k1
          obtain rfl := hnv.out
          obtain rfl := hgx.out
          obtain rfl := hgm.out
          obtain rfl := hii.out
          obtain rfl := hcv.out
          obtain rfl := hn1.out
          obtain rfl := hgn.out
          go_wp2_with fail
          (go_roundw; (case rel => exact ⟨ii + 1, A9, c9, by omega, by go_num, by rw [e1.out]; exact o9, by rw [e1.out, List.length_append]; exact n9, k1, by omega⟩); (case measure => simp [intOf]; omega))
    · have hkn : k = vs.length := by omega
      subst hkn
      have hg0 := hT.1
      have fb1 := hg0.k b1
      obtain ⟨-, n1, -, hnum⟩ := hT
      go_upto_if 44 with fail
      have hlw2 := hlw
      obtain ⟨wc, rfl⟩ : ∃ x, x = wr := ⟨wr, rfl⟩
      obtain ⟨Av, rfl⟩ : ∃ x, x = Aq := ⟨Aq, rfl⟩
      obtain ⟨cv, rfl⟩ : ∃ x, x = cq := ⟨cq, rfl⟩
      have hV2 : ∀ g, blk Av = some g → g < wc.heap.size := fun g e => (hown.blk_lt e).2
      clear hlt hlw
      obtain ⟨V, hV⟩ : ∃ V, V = keepTo vs U vs.length := ⟨_, rfl⟩
      rw [← hV] at hown n0
      obtain ⟨NL, hNL⟩ : ∃ NL, NL = numTo vs U vs.length := ⟨_, rfl⟩
      rw [← hNL] at hnum
      have hnl : NL.length = vs.length := by rw [hNL]; exact numTo_len _ _ _
      replace hV := hide hV
      replace hNL := hide hNL
      replace hnl := hide hnl
      go_loopw [43] (fun i wr => ∃ (k : Nat) (Aq : Option Addr) (cq : Nat), k ≤ fs.length ∧ i = .int .i64 k ∧ Own wr wc.heap.size 67 Aq cq ((fs.take k).map (renum vs U)) ∧ Cell wr (gm) 1 (.slice Aq k cq) ∧ Wa.grownBy wr none ∧ Cell wr (gm) 0 (.slice Av V.length cv) ∧ Own wr lo 49 Av cv V ∧ Own wr 0 3 (some ⟨gn, 0, none⟩) vs.length NL ∧ wc.heap.size ≤ wr.heap.size) (fun i _ => fs.length - (intOf i).toNat)
      case atStart => exact ⟨0, none, 0, by omega, rfl, Own.nil _ _ _, n1, hg0, n0, hown, hnum, by omega⟩
      case round =>
        clear n1 hg0 n0 hown hnum
        obtain ⟨k, Aq, cq, hk, rfl, fown, f1, hgr, f0, vown, hnum, hlw⟩ := hrel
        by_cases hlt : k < fs.length
        · obtain ⟨g, o, rfl, -, hbg, hcc⟩ := (hfs.pure (gr_trans hga hgr)).fc (by omega)
          obtain ⟨x0, x1, x2⟩ := hcc k hlt
          clear hcc
          have hmem := List.getElem_mem hlt
          have hfi := inF_bd (hin.out _ hmem)
          obtain ⟨ia, eia⟩ := Int.eq_ofNat_of_zero_le hfi.1.1
          obtain ⟨ib, eib⟩ := Int.eq_ofNat_of_zero_le hfi.2.1.1
          obtain ⟨ic, eic⟩ := Int.eq_ofNat_of_zero_le hfi.2.2.1
          have hia : ia < vs.length := by omega
          have hib : ib < vs.length := by omega
          have hic : ic < vs.length := by omega
          have y0 := hnum.cell_int (j := ia) (by have := hnl.out; omega)
          have y1 := hnum.cell_int (j := ib) (by have := hnl.out; omega)
          have y2 := hnum.cell_int (j := ic) (by have := hnl.out; omega)
          have he : (fs.take (k + 1)).map (renum vs U) = (fs.take k).map (renum vs U) ++ [(⟨rkI vs U ia, rkI vs U ib, rkI vs U ic⟩ : Fc)] := by
            rw [take_snoc hlt, List.map_append, List.map_singleton]
            unfold renum
            rw [eia, eib, eic]
            simp
          have eN : ∀ i (hi : i < vs.length) (hl : i < NL.length), (fs[k].a = i ∨ fs[k].b = i ∨ fs[k].c = i) → NL[i] = rkI vs U i := fun i hi hl h => by
            have e1 := hNL.out
            have e2 := hUd.out
            subst e2
            subst e1
            exact num_hit hmem hi h hl
          rw [eN ia hia _ (.inl eia)] at y0
          rw [eN ib hib _ (.inr (.inl eib))] at y1
          rw [eN ic hic _ (.inr (.inr eic))] at y2
          clear eN
          rw [eia] at x0
          rw [eib] at x1
          rw [eic] at x2
          replace he := hide he
          clear hfi eia eib eic hmem
          replace fown := hide fown
          replace vown := hide vown
          go_upto_region 13 with fail
          have hal := gr_alloc (r := none) (World.grownBy.refl wr none) (.cells #[.int .i64 ia, .int .i64 ib, .int .i64 ic] 67)
          have z0 := Cell.new wr [.int .i64 ia, .int .i64 ib, .int .i64 ic] 67 0 _ rfl _ rfl
          have z1 := Cell.new wr [.int .i64 ia, .int .i64 ib, .int .i64 ic] 67 1 _ rfl _ rfl
          have z2 := Cell.new wr [.int .i64 ia, .int .i64 ib, .int .i64 ic] 67 2 _ rfl _ rfl
          simp only [List.toArray] at z0 z1 z2
          have hsa : (wr.alloc (.cells #[.int .i64 ia, .int .i64 ib, .int .i64 ic] 67)).heap.size = wr.heap.size + 1 := by simp
          have hA2 : ∀ g, blk Aq = some g → wc.heap.size ≤ g ∧ g < wr.heap.size := fun g e => fown.out.blk_lt e
          have hT2 : TrF Wa gm gn lo wr.heap.size Av cv vs.length V NL (.int .i64 ia) (.int .i64 ib) (.int .i64 ic) (wr.alloc (.cells #[.int .i64 ia, .int .i64 ib, .int .i64 ic] 67)) :=
            ⟨gr_trans hgr hal, f0.gr hal (by simp), vown.out.pure hal, hnum.pure hal, z0, z1, z2⟩
          have f12 := f1.gr hal (by simp)
          have fown2 := fown.out.pure hal
          have hR := TrF.ok (Wa := Wa) (gm := gm) (gn := gn) (n := vs.length) (lo := lo) (lo3 := wc.heap.size) (gb := wr.heap.size) (cv := cv) (Av := Av) (Bq := Aq) (V := V) (NL := NL) (x := .int .i64 ia) (y := .int .i64 ib) (z := .int .i64 ic) hWam hgmlo hgnlo hgnm hlw hlw2 hV2 hA2
          have hn3 : NL[ia]'(by have := hnl.out; omega) = rkI vs U ia ∧ True := ⟨by have a := hnum.cell_int (j := ia) (by have := hnl.out; omega); rw [y0] at a; injection a with a; injection a with _ a; exact a.symm, trivial⟩
          have hn4 : NL[ib]'(by have := hnl.out; omega) = rkI vs U ib ∧ True := ⟨by have a := hnum.cell_int (j := ib) (by have := hnl.out; omega); rw [y1] at a; injection a with a; injection a with _ a; exact a.symm, trivial⟩
          have hn5 : NL[ic]'(by have := hnl.out; omega) = rkI vs U ic ∧ True := ⟨by have a := hnum.cell_int (j := ic) (by have := hnl.out; omega); rw [y2] at a; injection a with a; injection a with _ a; exact a.symm, trivial⟩
          obtain ⟨R, hRd⟩ : ∃ R, R = TrF Wa gm gn lo wr.heap.size Av cv vs.length V NL (.int .i64 ia) (.int .i64 ib) (.int .i64 ic) := ⟨_, rfl⟩
          obtain ⟨gb, hgb⟩ : ∃ gb, gb = wr.heap.size := ⟨_, rfl⟩
          obtain ⟨uq, huq⟩ : ∃ uq : Fc, uq = ⟨rkI vs U ia, rkI vs U ib, rkI vs U ic⟩ := ⟨_, rfl⟩
          have hrd : ∀ wx, R wx → wx.cell? ⟨gb, 0, none⟩ = some (.int .i64 (ia : Nat)) ∧ wx.cell? ⟨gb, 1, none⟩ = some (.int .i64 (ib : Nat)) ∧ wx.cell? ⟨gb, 2, none⟩ = some (.int .i64 (ic : Nat)) ∧ wx.cell? ⟨gn, ia, none⟩ = some (.int .i64 uq.a) ∧ wx.cell? ⟨gn, ib, none⟩ = some (.int .i64 uq.b) ∧ wx.cell? ⟨gn, ic, none⟩ = some (.int .i64 uq.c) := fun wx hx => by
            rw [hRd] at hx
            obtain ⟨-, -, -, p3, p4, p5, p6⟩ := hx
            rw [hgb, huq]
            exact ⟨p4.1, p5.1, p6.1, by rw [p3.cell_int (j := ia) (by have := hnl.out; omega), hn3.1], by rw [p3.cell_int (j := ib) (by have := hnl.out; omega), hn4.1], by rw [p3.cell_int (j := ic) (by have := hnl.out; omega), hn5.1]⟩
          rw [← hRd] at hR hT2
          rw [← huq] at he
          have hlenq : ((fs.take k).map (renum vs U)).length = k := by rw [List.length_map, List.length_take]; omega
          obtain ⟨lq, hlq⟩ : ∃ lq, lq = (fs.take k).map (renum vs U) := ⟨_, rfl⟩
          rw [← hlq] at fown2 hlenq he
          obtain ⟨n1, hn1⟩ : ∃ n1, n1 = k := ⟨_, rfl⟩
          obtain ⟨nn, hnn⟩ : ∃ nn, nn = vs.length := ⟨_, rfl⟩
          obtain ⟨lo3, hlo3⟩ : ∃ lo3, lo3 = wc.heap.size := ⟨_, rfl⟩
          simp only [← hn1] at f12 hlenq
          rw [← hlo3] at fown2
          obtain ⟨lo2, hlo2d⟩ : ∃ lo2, lo2 = gb := ⟨_, rfl⟩
          have hqA : ∀ g, blk Aq = some g → g < lo2 := fun g e => by have := hA2 g e; omega
          have hlo : gm < lo3 := by omega
          have hq1 : lq.length = n1 := hlenq
          have hn1000 : n1 ≤ 2000 := by omega
          have hlolo2 : lo3 ≤ lo2 := by omega
          have hgmlo2 : gm < lo2 := by omega
          have hia2 : ia < nn := by omega
          have hib2 : ib < nn := by omega
          have hic2 : ic < nn := by omega
          have fown3 := fown2
          clear fown x0 x1 x2 y0 y1 y2 hbg z0 z1 z2 hn3 hn4 hn5 f0 f1 vown hnum hgr fown2 hal hA2
          rw [← hgb]
          generalize (wr.alloc (.cells #[.int .i64 ia, .int .i64 ib, .int .i64 ic] 67)) = wv at *
          have hI0 : ∀ m : Nat → Bool, m 21 = false → GpI Fc 19 21 67 gm 1 lo3 lo2 n1 cq Aq lq uq R m 0 wv.drew := fun m hm => by
            have hd := gr_drew (World.grownBy.refl wv none)
            exact ⟨hR.pure _ _ hT2 hd, by show lo2 ≤ wv.heap.size; omega, fun _ => fown3.pure hd, fun _ => f12.gr hd (by simp), fun h => by rw [hm] at h; cases h⟩
          rw [← hnn]
          clear fown3 f12 hT2
          have hlo4 : gm < lo3 := hlo
          clear hlo hlo2
          obtain ⟨lo0, rfl⟩ : ∃ x, x = lo := ⟨lo, rfl⟩
          obtain ⟨lo, hlo5⟩ : ∃ x, x = lo3 := ⟨lo3, rfl⟩
          rw [← hlo5] at hlo4 hlolo2
          simp only [← hlo5] at hI0
          have hlo := hlo4
          replace hI0 := hide hI0
          replace hrd := hide hrd
          replace hq1 := hide hq1
          replace hgb := hide hgb
          replace hn1 := hide hn1
          replace hlq := hide hlq
          replace huq := hide huq
          replace hRd := hide hRd
          replace hlo2d := hide hlo2d
          replace hlo3 := hide hlo3
          replace hlo5 := hide hlo5
          replace hnn := hide hnn
          replace hgm := hide hgm
          replace hgn := hide hgn
          replace hlenq := hide hlenq
          refine wp_region_minvF (GpI Fc 19 21 67 gm 1 lo lo2 n1 cq Aq lq uq R) (fun m => Wrt (fun g => g = gm ∨ (m 19 = false ∧ lo ≤ g ∧ g < lo2))) [VIs (.pointer (some ⟨gm, 1, none⟩)), VIs (.slice Aq n1 cq), VIs (.slice (some ⟨gn, 0, none⟩) nn nn), VIs (.pointer (some ⟨gb, 0, none⟩)), VIs (.int .i64 (ia : Nat)), VIs (.pointer (some ⟨gn, ia, none⟩)), VIs (.int .i64 uq.a), VIs (.slice (some ⟨gn, 0, none⟩) nn nn), VIs (.pointer (some ⟨gb, 1, none⟩)), VIs (.int .i64 (ib : Nat)), VIs (.pointer (some ⟨gn, ib, none⟩)), VIs (.int .i64 uq.b), VIs (.slice (some ⟨gn, 0, none⟩) nn nn), VIs (.pointer (some ⟨gb, 2, none⟩)), VIs (.int .i64 (ic : Nat)), VIs (.pointer (some ⟨gn, ic, none⟩)), VIs (.int .i64 uq.c), VIs (.agg #[.int .i64 uq.a, .int .i64 uq.b, .int .i64 uq.c]), VOneG Fc lo2 uq, VGp Fc 67 lo n1 lq uq, VIs (.pointer (some ⟨gm, 1, none⟩)), (fun _ _ => True)] [0, 0, 0, 0, 0, 0, 0, 0, 0, 0, 0, 0, 0, 0, 0, 0, 0, 0, 0, 0, 0, 0] (by kernel_rfl) (by kernel_rfl) (by intro vs; simp only [putAll, Act.put, List.setIfInBounds_toArray, List.set_cons_zero, List.set_cons_succ, Nat.reduceAdd]; exact rfl) ?iv0 ?iv1 rfl ?iv2 ?iv3
          case iv1 => exact Stab.ok ⟨fun m v w w' _ _ h => h, fun m v w w' _ _ h => h, fun m v w w' _ _ h => h, fun m v w w' _ _ h => h, fun m v w w' _ _ h => h, fun m v w w' _ _ h => h, fun m v w w' _ _ h => h, fun m v w w' _ _ h => h, fun m v w w' _ _ h => h, fun m v w w' _ _ h => h, fun m v w w' _ _ h => h, fun m v w w' _ _ h => h, fun m v w w' _ _ h => h, fun m v w w' _ _ h => h, fun m v w w' _ _ h => h, fun m v w w' _ _ h => h, fun m v w w' _ _ h => h, fun m v w w' _ _ h => h, fun m v w w' _ hw h => h.stab hw (fun g h => by rcases h with h | ⟨_, h1, h2⟩ <;> omega), fun m v w w' hm hw h => h.stab hw (fun g h => by rcases h with h | ⟨h, _⟩ <;> first | omega | (rw [show m 19 = true from hm] at h; cases h)), fun m v w w' _ _ h => h, fun m v w w' _ _ h => h, trivial⟩
          case iv2 =>
            refine MOpsF.op (fun vs wx m k hmj hcl hI hk hf K hK => ?_) ?_
            · clear hf hcl
              replace hK := hide hK
              replace hI := hide hI
              go_wp2_with fail
              replace hK := hK.out (.pointer (some ⟨gm, 1, none⟩))
              simp only [Act.put, List.setIfInBounds_toArray, List.set_cons_zero, List.set_cons_succ, Nat.add_zero] at hK
              exact hK _ ((hI.out.same (by decide) (by decide))) (Wrt.pure (World.grownBy.refl _ _)) (rfl)
            refine MOpsF.op (fun vs wx m k hmj hcl hI hk hf K hK => ?_) ?_
            · have e0 : vs 0 = .pointer (some ⟨gm, 1, none⟩) := hf 0 (by decide) (by kernel_rfl)
              clear hf
              have h21 : m 21 = false := by
                cases hq : m 21 with
                | false => rfl
                | true => exact absurd (hcl 21 1 (by decide) (by decide) hq (by kernel_rfl)) (by rw [show m 1 = false from hmj]; simp)
              have c := (hI.2.2.2.1 h21).1
              clear hcl h21
              replace hK := hide hK
              replace hI := hide hI
              rw [e0]
              replace e0 := hide e0
              go_wp2_with fail
              replace hK := hK.out (.slice Aq n1 cq)
              simp only [Act.put, List.setIfInBounds_toArray, List.set_cons_zero, List.set_cons_succ, e0.out, Nat.add_zero] at hK
              exact hK _ ((hI.out.same (by decide) (by decide))) (Wrt.pure (World.grownBy.refl _ _)) (rfl)
            refine MOpsF.op (fun vs wx m k hmj hcl hI hk hf K hK => ?_) ?_
            · clear hf hcl
              replace hK := hide hK
              replace hI := hide hI
              go_wp2_with fail
              replace hK := hK.out (.slice (some ⟨gn, 0, none⟩) nn nn)
              simp only [Act.put, List.setIfInBounds_toArray, List.set_cons_zero, List.set_cons_succ, Nat.add_zero] at hK
              exact hK _ ((hI.out.same (by decide) (by decide))) (Wrt.pure (World.grownBy.refl _ _)) (rfl)
            refine MOpsF.op (fun vs wx m k hmj hcl hI hk hf K hK => ?_) ?_
            · clear hf hcl
              replace hK := hide hK
              replace hI := hide hI
              go_wp2_with fail
              replace hK := hK.out (.pointer (some ⟨gb, 0, none⟩))
              simp only [Act.put, List.setIfInBounds_toArray, List.set_cons_zero, List.set_cons_succ, Nat.add_zero] at hK
              exact hK _ ((hI.out.same (by decide) (by decide))) (Wrt.pure (World.grownBy.refl _ _)) (rfl)
            refine MOpsF.op (fun vs wx m k hmj hcl hI hk hf K hK => ?_) ?_
            · have e3 : vs 3 = .pointer (some ⟨gb, 0, none⟩) := hf 3 (by decide) (by kernel_rfl)
              clear hf hcl
              obtain ⟨z0, z1, z2, y0, y1, y2⟩ := hrd.out wx hI.1
              have c := z0
              clear z0 z1 z2 y0 y1 y2
              replace hK := hide hK
              replace hI := hide hI
              rw [e3]
              replace e3 := hide e3
              go_wp2_with fail
              replace hK := hK.out (.int .i64 (ia : Nat))
              simp only [Act.put, List.setIfInBounds_toArray, List.set_cons_zero, List.set_cons_succ, e3.out, Nat.add_zero] at hK
              exact hK _ ((hI.out.same (by decide) (by decide))) (Wrt.pure (World.grownBy.refl _ _)) (rfl)
            refine MOpsF.op (fun vs wx m k hmj hcl hI hk hf K hK => ?_) ?_
            · have e2 : vs 2 = .slice (some ⟨gn, 0, none⟩) nn nn := hf 2 (by decide) (by kernel_rfl)
              have e4 : vs 4 = .int .i64 (ia : Nat) := hf 4 (by decide) (by kernel_rfl)
              clear hf hcl
              replace hK := hide hK
              replace hI := hide hI
              rw [e2, e4]
              replace e2 := hide e2
              replace e4 := hide e4
              go_wp2_with fail
              replace hK := hK.out (.pointer (some ⟨gn, ia, none⟩))
              simp only [Act.put, List.setIfInBounds_toArray, List.set_cons_zero, List.set_cons_succ, e2.out, e4.out, Nat.add_zero] at hK
              exact hK _ ((hI.out.same (by decide) (by decide))) (Wrt.pure (World.grownBy.refl _ _)) (rfl)
            refine MOpsF.op (fun vs wx m k hmj hcl hI hk hf K hK => ?_) ?_
            · have e5 : vs 5 = .pointer (some ⟨gn, ia, none⟩) := hf 5 (by decide) (by kernel_rfl)
              clear hf hcl
              obtain ⟨z0, z1, z2, y0, y1, y2⟩ := hrd.out wx hI.1
              have c := y0
              clear z0 z1 z2 y0 y1 y2
              replace hK := hide hK
              replace hI := hide hI
              rw [e5]
              replace e5 := hide e5
              go_wp2_with fail
              replace hK := hK.out (.int .i64 uq.a)
              simp only [Act.put, List.setIfInBounds_toArray, List.set_cons_zero, List.set_cons_succ, e5.out, Nat.add_zero] at hK
              exact hK _ ((hI.out.same (by decide) (by decide))) (Wrt.pure (World.grownBy.refl _ _)) (rfl)
            refine MOpsF.op (fun vs wx m k hmj hcl hI hk hf K hK => ?_) ?_
            · clear hf hcl
              replace hK := hide hK
              replace hI := hide hI
              go_wp2_with fail
              replace hK := hK.out (.slice (some ⟨gn, 0, none⟩) nn nn)
              simp only [Act.put, List.setIfInBounds_toArray, List.set_cons_zero, List.set_cons_succ, Nat.add_zero] at hK
              exact hK _ ((hI.out.same (by decide) (by decide))) (Wrt.pure (World.grownBy.refl _ _)) (rfl)
            refine MOpsF.op (fun vs wx m k hmj hcl hI hk hf K hK => ?_) ?_
            · clear hf hcl
              replace hK := hide hK
              replace hI := hide hI
              go_wp2_with fail
              replace hK := hK.out (.pointer (some ⟨gb, 1, none⟩))
              simp only [Act.put, List.setIfInBounds_toArray, List.set_cons_zero, List.set_cons_succ, Nat.add_zero] at hK
              exact hK _ ((hI.out.same (by decide) (by decide))) (Wrt.pure (World.grownBy.refl _ _)) (rfl)
            refine MOpsF.op (fun vs wx m k hmj hcl hI hk hf K hK => ?_) ?_
            · have e8 : vs 8 = .pointer (some ⟨gb, 1, none⟩) := hf 8 (by decide) (by kernel_rfl)
              clear hf hcl
              obtain ⟨z0, z1, z2, y0, y1, y2⟩ := hrd.out wx hI.1
              have c := z1
              clear z0 z1 z2 y0 y1 y2
              replace hK := hide hK
              replace hI := hide hI
              rw [e8]
              replace e8 := hide e8
              go_wp2_with fail
              replace hK := hK.out (.int .i64 (ib : Nat))
              simp only [Act.put, List.setIfInBounds_toArray, List.set_cons_zero, List.set_cons_succ, e8.out, Nat.add_zero] at hK
              exact hK _ ((hI.out.same (by decide) (by decide))) (Wrt.pure (World.grownBy.refl _ _)) (rfl)
            refine MOpsF.op (fun vs wx m k hmj hcl hI hk hf K hK => ?_) ?_
            · have e7 : vs 7 = .slice (some ⟨gn, 0, none⟩) nn nn := hf 7 (by decide) (by kernel_rfl)
              have e9 : vs 9 = .int .i64 (ib : Nat) := hf 9 (by decide) (by kernel_rfl)
              clear hf hcl
              replace hK := hide hK
              replace hI := hide hI
              rw [e7, e9]
              replace e7 := hide e7
              replace e9 := hide e9
              go_wp2_with fail
              replace hK := hK.out (.pointer (some ⟨gn, ib, none⟩))
              simp only [Act.put, List.setIfInBounds_toArray, List.set_cons_zero, List.set_cons_succ, e7.out, e9.out, Nat.add_zero] at hK
              exact hK _ ((hI.out.same (by decide) (by decide))) (Wrt.pure (World.grownBy.refl _ _)) (rfl)
            refine MOpsF.op (fun vs wx m k hmj hcl hI hk hf K hK => ?_) ?_
            · have e10 : vs 10 = .pointer (some ⟨gn, ib, none⟩) := hf 10 (by decide) (by kernel_rfl)
              clear hf hcl
              obtain ⟨z0, z1, z2, y0, y1, y2⟩ := hrd.out wx hI.1
              have c := y1
              clear z0 z1 z2 y0 y1 y2
              replace hK := hide hK
              replace hI := hide hI
              rw [e10]
              replace e10 := hide e10
              go_wp2_with fail
              replace hK := hK.out (.int .i64 uq.b)
              simp only [Act.put, List.setIfInBounds_toArray, List.set_cons_zero, List.set_cons_succ, e10.out, Nat.add_zero] at hK
              exact hK _ ((hI.out.same (by decide) (by decide))) (Wrt.pure (World.grownBy.refl _ _)) (rfl)
            refine MOpsF.op (fun vs wx m k hmj hcl hI hk hf K hK => ?_) ?_
            · clear hf hcl
              replace hK := hide hK
              replace hI := hide hI
              go_wp2_with fail
              replace hK := hK.out (.slice (some ⟨gn, 0, none⟩) nn nn)
              simp only [Act.put, List.setIfInBounds_toArray, List.set_cons_zero, List.set_cons_succ, Nat.add_zero] at hK
              exact hK _ ((hI.out.same (by decide) (by decide))) (Wrt.pure (World.grownBy.refl _ _)) (rfl)
            refine MOpsF.op (fun vs wx m k hmj hcl hI hk hf K hK => ?_) ?_
            · clear hf hcl
              replace hK := hide hK
              replace hI := hide hI
              go_wp2_with fail
              replace hK := hK.out (.pointer (some ⟨gb, 2, none⟩))
              simp only [Act.put, List.setIfInBounds_toArray, List.set_cons_zero, List.set_cons_succ, Nat.add_zero] at hK
              exact hK _ ((hI.out.same (by decide) (by decide))) (Wrt.pure (World.grownBy.refl _ _)) (rfl)
            refine MOpsF.op (fun vs wx m k hmj hcl hI hk hf K hK => ?_) ?_
            · have e13 : vs 13 = .pointer (some ⟨gb, 2, none⟩) := hf 13 (by decide) (by kernel_rfl)
              clear hf hcl
              obtain ⟨z0, z1, z2, y0, y1, y2⟩ := hrd.out wx hI.1
              have c := z2
              clear z0 z1 z2 y0 y1 y2
              replace hK := hide hK
              replace hI := hide hI
              rw [e13]
              replace e13 := hide e13
              go_wp2_with fail
              replace hK := hK.out (.int .i64 (ic : Nat))
              simp only [Act.put, List.setIfInBounds_toArray, List.set_cons_zero, List.set_cons_succ, e13.out, Nat.add_zero] at hK
              exact hK _ ((hI.out.same (by decide) (by decide))) (Wrt.pure (World.grownBy.refl _ _)) (rfl)
            refine MOpsF.op (fun vs wx m k hmj hcl hI hk hf K hK => ?_) ?_
            · have e12 : vs 12 = .slice (some ⟨gn, 0, none⟩) nn nn := hf 12 (by decide) (by kernel_rfl)
              have e14 : vs 14 = .int .i64 (ic : Nat) := hf 14 (by decide) (by kernel_rfl)
              clear hf hcl
              replace hK := hide hK
              replace hI := hide hI
              rw [e12, e14]
              replace e12 := hide e12
              replace e14 := hide e14
              go_wp2_with fail
              replace hK := hK.out (.pointer (some ⟨gn, ic, none⟩))
              simp only [Act.put, List.setIfInBounds_toArray, List.set_cons_zero, List.set_cons_succ, e12.out, e14.out, Nat.add_zero] at hK
              exact hK _ ((hI.out.same (by decide) (by decide))) (Wrt.pure (World.grownBy.refl _ _)) (rfl)
            refine MOpsF.op (fun vs wx m k hmj hcl hI hk hf K hK => ?_) ?_
            · have e15 : vs 15 = .pointer (some ⟨gn, ic, none⟩) := hf 15 (by decide) (by kernel_rfl)
              clear hf hcl
              obtain ⟨z0, z1, z2, y0, y1, y2⟩ := hrd.out wx hI.1
              have c := y2
              clear z0 z1 z2 y0 y1 y2
              replace hK := hide hK
              replace hI := hide hI
              rw [e15]
              replace e15 := hide e15
              go_wp2_with fail
              replace hK := hK.out (.int .i64 uq.c)
              simp only [Act.put, List.setIfInBounds_toArray, List.set_cons_zero, List.set_cons_succ, e15.out, Nat.add_zero] at hK
              exact hK _ ((hI.out.same (by decide) (by decide))) (Wrt.pure (World.grownBy.refl _ _)) (rfl)
            refine MOpsF.op (fun vs wx m k hmj hcl hI hk hf K hK => ?_) ?_
            · have e6 : vs 6 = .int .i64 uq.a := hf 6 (by decide) (by kernel_rfl)
              have e11 : vs 11 = .int .i64 uq.b := hf 11 (by decide) (by kernel_rfl)
              have e16 : vs 16 = .int .i64 uq.c := hf 16 (by decide) (by kernel_rfl)
              clear hf hcl
              replace hK := hide hK
              replace hI := hide hI
              rw [e6, e11, e16]
              replace e6 := hide e6
              replace e11 := hide e11
              replace e16 := hide e16
              go_wp2_with fail
              replace hK := hK.out (.agg #[.int .i64 uq.a, .int .i64 uq.b, .int .i64 uq.c])
              simp only [Act.put, List.setIfInBounds_toArray, List.set_cons_zero, List.set_cons_succ, e6.out, e11.out, e16.out, Nat.add_zero] at hK
              exact hK _ ((hI.out.same (by decide) (by decide))) (Wrt.pure (World.grownBy.refl _ _)) (rfl)
            refine MOpsF.op (fun vs wx m k hmj hcl hI hk hf K hK => ?_) ?_
            · have e17 : vs 17 = .agg #[.int .i64 uq.a, .int .i64 uq.b, .int .i64 uq.c] := hf 17 (by decide) (by kernel_rfl)
              clear hf hcl
              replace hK := hide hK
              replace hI := hide hI
              rw [e17]
              replace e17 := hide e17
              go_wp2_with fail
              replace hK := hK.out (.slice (some ⟨wx.heap.size, 0, none⟩) 1 1)
              simp only [Act.put, List.setIfInBounds_toArray, List.set_cons_zero, List.set_cons_succ, e17.out, Nat.add_zero] at hK
              exact hK _ (((hI.out.same (by decide) (by decide)).pure hR (gr_alloc (World.grownBy.refl _ _) _))) (Wrt.pure (gr_alloc (World.grownBy.refl _ _) _)) (⟨wx.heap.size, rfl, sl_oneAt _ _ _ _ _ _ rfl hI.out.2.1 rfl⟩)
            refine MOpsF.op (fun vs wx m k hmj hcl hI hk hf K hK => ?_) ?_
            · have e1 : vs 1 = .slice Aq n1 cq := hf 1 (by decide) (by kernel_rfl)
              obtain ⟨g18, e18, hsl⟩ := hf 18 (by decide) (by kernel_rfl)
              clear hf
              have h21 : m 21 = false := by
                cases hq : m 21 with
                | false => rfl
                | true => exact absurd (hcl 21 19 (by decide) (by decide) hq (by kernel_rfl)) (by rw [show m 19 = false from hmj]; simp)
              have hown := hI.2.2.1 hmj
              obtain ⟨i0, hi, hz, h1, h2⟩ := info_parts info_face
              replace hK := hide hK
              replace hI := hide hI
              rw [e1, e18]
              replace e1 := hide e1
              replace e18 := hide e18
              refine wp_pushAt (α := Fc) _ (.tmp 48) (.tmp 65) _ rfl lo 67 i0 _ 24 Try.underlying27 hi hz h1 h2 rfl _ _ _ lq rfl ?_ hown lo2 ⟨g18, 0, none⟩ 1 1 [uq] rfl ?_ hsl ?_ ?_ ?_ ?_
              · exact hq1.out.symm
              · rfl
              · have := hq1.out; simp; omega
              · have := hq1.out; simp [maxLen]; omega
              · have := hI.out.2.1; omega
              intro A5 c5 w5 hown5 hG5
              simp only [Act.put, List.setIfInBounds_toArray, List.set_cons_zero, List.set_cons_succ]
              replace hK := hK.out (.slice A5 (lq ++ [uq]).length c5)
              simp only [Act.put, List.setIfInBounds_toArray, List.set_cons_zero, List.set_cons_succ, e1.out, e18.out, Nat.add_zero] at hK
              exact hK _ ((hI.out.app hR hlo (by decide) h21 hG5 hown)) (⟨_, hG5.1, fun g e => .inr ⟨hmj, (hown.blk_lt e).1, hqA g e⟩⟩) (⟨A5, c5, by rw [List.length_append, hq1.out]; rfl, hown5⟩)
            refine MOpsF.op (fun vs wx m k hmj hcl hI hk hf K hK => ?_) ?_
            · clear hf hcl
              replace hK := hide hK
              replace hI := hide hI
              go_wp2_with fail
              replace hK := hK.out (.pointer (some ⟨gm, 1, none⟩))
              simp only [Act.put, List.setIfInBounds_toArray, List.set_cons_zero, List.set_cons_succ, Nat.add_zero] at hK
              exact hK _ ((hI.out.same (by decide) (by decide))) (Wrt.pure (World.grownBy.refl _ _)) (rfl)
            refine MOpsF.op (fun vs wx m k hmj hcl hI hk hf K hK => ?_) ?_
            · have e20 : vs 20 = .pointer (some ⟨gm, 1, none⟩) := hf 20 (by decide) (by kernel_rfl)
              obtain ⟨A19, c19, e19, ho19⟩ := hf 19 (by decide) (by kernel_rfl)
              clear hf hcl
              have c := hI.2.2.2.1 hmj
              obtain ⟨c, fz⟩ := c
              have hgs := gr_set (World.grownBy.refl wx (some gm)) (p := ⟨gm, 1, none⟩) (.inl rfl) (.slice A19 (n1 + 1) c19)
              replace hgs := hide hgs
              replace ho19 := hide ho19
              replace hK := hide hK
              replace hI := hide hI
              rw [e20, e19]
              replace e20 := hide e20
              replace e19 := hide e19
              go_wp2_with fail
              replace hK := hK.out (undef)
              simp only [Act.put, List.setIfInBounds_toArray, List.set_cons_zero, List.set_cons_succ, e20.out, e19.out, Nat.add_zero] at hK
              exact hK _ ((hI.out.fin hR hlo (by decide) ⟨c, fz⟩ ho19.out)) (Wrt.one hgs.out (.inl rfl)) (trivial)
            exact MOpsF.done
          case iv0 => exact fun m hm => hI0.out m (hm 21 (by decide))
          case iv3 =>
            intro vs' w9 m hm' hI hf
            have e21 := hm' 21 (by decide)
            obtain ⟨k1, k2, -, -, k5⟩ := hI
            obtain ⟨A9, c9, n9, o9⟩ := k5 e21
            clear hf hm' hI0 e21
            replace hlo := hide hlo
            rw [hRd.out] at k1
            obtain rfl := hnn.out
            obtain rfl := hn1.out
            obtain rfl := hgb.out
            obtain ⟨p0, p1, p2, p3, -, -, -⟩ := k1
            rw [hlo5.out, hlo3.out] at o9
            go_wp2_with fail
            (go_roundw; (case rel => exact ⟨n1 + 1, A9, c9, by omega, by go_num, by rw [he.out]; exact o9, n9, p0, p1, p2, p3, by have := hlo3.out; have := hlo5.out; omega⟩); (case measure => simp [intOf]; omega))
        · have hkn : k = fs.length := by omega
          subst hkn
          rw [List.take_length] at fown
          obtain ⟨k0, kf0⟩ := q0.gr hgr (by simp)
          obtain ⟨k1, kf1⟩ := q1.gr hgr (by simp)
          replace fown := hide fown
          replace vown := hide vown
          obtain ⟨v0, -⟩ := f0
          obtain ⟨v1, -⟩ := f1
          have hgs := hgr.size
          replace hgm := hide hgm
          replace hgn := hide hgn
          go_wp2_with fail
          have hw3 := fun a b => gr_set (gr_set (gr_trans hga hgr) (p := ⟨w.heap.size + 1, 0, none⟩) (.inr (by simp)) a) (p := ⟨w.heap.size + 1, 1, none⟩) (.inr (by simp)) b
          have hw4 := fun a b => gr_set (gr_set (World.grownBy.refl wr (some (w.heap.size + 1))) (p := ⟨w.heap.size + 1, 0, none⟩) (.inl rfl) a) (p := ⟨w.heap.size + 1, 1, none⟩) (.inl rfl) b
          have hVn : ∀ g, blk Av = some g → some (w.heap.size + 1) ≠ some g := fun g e1 e2 => by have := (vown.out.blk_lt e1).1; have := hgm.out; injection e2; omega
          have hFn : ∀ g, blk Aq = some g → some (w.heap.size + 1) ≠ some g := fun g e1 e2 => by have := (fown.out.blk_lt e1).1; have := hgm.out; injection e2; omega
          have eV : (trimM ⟨vs, fs⟩).vs = V := by rw [hV.out, hUd.out]; rfl
          have eF : (trimM ⟨vs, fs⟩).fs = fs.map (renum vs U) := by rw [hUd.out]; rfl
          refine bodyPost_ret (v := .agg #[.slice Av V.length cv, .slice Aq fs.length cq]) (by simp [results, Try.results80, go_sem, k0, k1, kf0, kf1]) rfl ⟨Av, cv, Aq, cq, ?_, ?_, ?_, ?_⟩
          · rw [eV, eF, List.length_map]
          · rw [eV]; exact (vown.out.ne (hw4 _ _) hVn).lower (by have := hgm.out; omega)
          · rw [eF]; exact (fown.out.ne (hw4 _ _) hFn).lower (by have := hgm.out; omega)
          · exact hw3 _ _

end Go.Proofs.Ytjodjdjfagjiaaa

namespace Go.Bl
open Go
variable {P : Program} {ops : Array Oper} {C : World → Prop} {Q : Act → World → Prop}

inductive Plan | done | bl (j : Nat) (p : Plan) | ef (j : Nat) (p : Plan) | alt (p q : Plan)

/-- in which worlds an operation of a kind is looked at: 1 in C, 2 in all -/
def clsT (C : World → Prop) (k : Nat) : World → Prop := fun w => k = 1 → C w
def SeesT (P : Program) (ops : Array Oper) (C : World → Prop) (k : Nat) (o : Oper) (v : Value) (a : Act) : Prop := Sees P ops (clsT C k) o v a

def runP (P : Program) (ops : Array Oper) (C : World → Prop) (T : Nat → Nat) (need : Nat → Bool) (Q : Act → World → Prop) : Plan → Act → World → Prop
  | .done, a, w => Q a w
  | .bl j p, a, w => ∃ o, ops[j]? = some o ∧ ∃ v, SeesT P ops C (T j) o v a ∧ runP P ops C T need Q p (a.put o.dst v) w
  | .ef j p, a, w => wpOp P ops NoQ j (fun a' w' => (need j = true → C w') ∧ runP P ops C T need Q p a' w') a w
  | .alt p q, a, w => runP P ops C T need Q p a w ∧ runP P ops C T need Q q a w

def readyB (ops : Array Oper) (m : Nat → Bool) (j : Nat) : Bool := !m j && ((ops[j]?).map fun o => o.after.toList.all fun e => !Region.binds .any e || m e.on).getD false
def inFront (j : Nat) : Plan → Bool
  | .ef i _ => i == j
  | .alt p q => inFront j p || inFront j q
  | _ => false
def frontB (ops : Array Oper) (T : Nat → Nat) (p : Plan) (m : Nat → Bool) : Bool := (List.range ops.size).all fun j => !readyB ops m j || (T j == 0 && inFront j p)
def okP (ops : Array Oper) (T : Nat → Nat) : Plan → Bool → (Nat → Bool) → Bool
  | .done, f, m => !f && (List.range ops.size).all fun j => m j
  | .bl j p, f, m => !f && (readyB ops m j && (T j != 0 && okP ops T p false (setm m j)))
  | .ef j p, f, m => (f || frontB ops T (.ef j p) m) && (readyB ops m j && (T j == 0 && okP ops T p false (setm m j)))
  | .alt p q, f, m => (f || frontB ops T (.alt p q) m) && (okP ops T p true m && okP ops T q true m)

theorem setm_comm (m : Nat → Bool) (i j : Nat) : setm (setm m i) j = setm (setm m j) i := by
  funext x; simp only [setm]; rw [Bool.or_left_comm]
theorem readyB_setm {m : Nat → Bool} {i j : Nat} (h : readyB ops m j = true) (hij : j ≠ i) : readyB ops (setm m i) j = true := by
  unfold readyB at h ⊢
  rw [Bool.and_eq_true] at h ⊢
  obtain ⟨h1, h2⟩ := h
  refine ⟨by simp only [setm, show (j == i) = false from beq_eq_false_iff_ne.2 hij, Bool.false_or]; exact h1, ?_⟩
  cases ho : ops[j]? with
  | none => rw [ho] at h2; simp at h2
  | some o =>
    rw [ho] at h2
    simp only [Option.map_some, Option.getD_some, List.all_eq_true, Bool.or_eq_true] at h2 ⊢
    intro e he
    rcases h2 e he with h | h
    · exact .inl h
    · exact .inr (by simp only [setm, h, Bool.or_true])
theorem readyB_not {m : Nat → Bool} {j : Nat} (h : readyB ops m j = true) : m j = false := by
  unfold readyB at h; rw [Bool.and_eq_true] at h; simpa using h.1
theorem readyB_some {m : Nat → Bool} {j : Nat} (h : readyB ops m j = true) : ∃ o, ops[j]? = some o := by
  unfold readyB at h; rw [Bool.and_eq_true] at h
  cases ho : ops[j]? with
  | none => rw [ho] at h; simp at h
  | some o => exact ⟨o, rfl⟩

/-- what is asked of the operations two by two -/
def apartB (ops : Array Oper) (T : Nat → Nat) : Bool :=
  Region.noSelect ops && ((List.range ops.size).all fun j => ((ops[j]?).map fun o => o.after.toList.all fun e => !Region.binds .any e || decide (e.on < j)).getD true &&
    (List.range ops.size).all fun i => i == j || T i == 0 || waitsB .any ops j i || waitsB .any ops i j || ((ops[i]?).bind fun oi => (ops[j]?).map fun oj => oi.apart ops oj).getD true)
def needB (ops : Array Oper) (T : Nat → Nat) (k : Nat) : Bool := (List.range ops.size).any fun i => T i == 1 && !reachB .any ops (k + 1) k i

theorem runP_front {T : Nat → Nat} {need : Nat → Bool} {j : Nat} : ∀ {p : Plan} {m : Nat → Bool} {a : Act} {w : World}, inFront j p = true → okP ops T p true m = true → runP P ops C T need Q p a w →
    ∃ p', okP ops T p' false (setm m j) = true ∧ wpOp P ops NoQ j (fun a' w' => (need j = true → C w') ∧ runP P ops C T need Q p' a' w') a w
  | .done, m, a, w, hf, _, _ => by simp [inFront] at hf
  | .bl _ _, m, a, w, hf, _, _ => by simp [inFront] at hf
  | .ef i p, m, a, w, hf, hok, h => by
    simp only [inFront, beq_iff_eq] at hf
    subst hf
    simp only [okP, Bool.true_or, Bool.true_and, Bool.and_eq_true] at hok
    exact ⟨p, hok.2.2, h⟩
  | .alt p q, m, a, w, hf, hok, h => by
    simp only [inFront, Bool.or_eq_true] at hf
    simp only [okP, Bool.true_or, Bool.true_and, Bool.and_eq_true] at hok
    rcases hf with hf | hf
    · exact runP_front hf hok.1 h.1
    · exact runP_front hf hok.2 h.2

section
variable {T : Nat → Nat} {need : Nat → Bool} (hsel : ∀ (k : Nat) (o : Oper) cs b, ops[k]? = some o → o.op ≠ .select cs b)
  (hap : ∀ (m : Nat → Bool) (i j : Nat) oi oj, i ≠ j → T i ≠ 0 → readyB ops m i = true → readyB ops m j = true → ops[i]? = some oi → ops[j]? = some oj → oi.apart ops oj = true)
include hsel hap

theorem runP_eff {j : Nat} {oj : Oper} (hj : ops[j]? = some oj) (htj : T j = 0) : ∀ {p : Plan} {m : Nat → Bool} {a : Act} {w : World}, okP ops T p false m = true → readyB ops m j = true → runP P ops C T need Q p a w →
    ∃ p', okP ops T p' false (setm m j) = true ∧ wpOp P ops NoQ j (fun a' w' => (need j = true → C w') ∧ runP P ops C T need Q p' a' w') a w
  | .done, m, a, w, hok, hr, h => by
    have h1 := readyB_not hr
    simp only [okP, Bool.not_false, Bool.true_and, List.all_eq_true, List.mem_range] at hok
    rw [hok j (Array.getElem?_eq_some_iff.1 hj).1] at h1
    cases h1
  | .ef i p, m, a, w, hok, hr, h => by
    have hok' := hok
    simp only [okP, Bool.false_or, Bool.and_eq_true, frontB, List.all_eq_true, List.mem_range] at hok
    have := hok.1 j (Array.getElem?_eq_some_iff.1 hj).1
    simp only [hr, Bool.not_true, Bool.false_or, Bool.and_eq_true] at this
    refine runP_front this.2 ?_ h
    simp only [okP, Bool.true_or, Bool.true_and, Bool.and_eq_true]
    exact hok.2
  | .alt p q, m, a, w, hok, hr, h => by
    simp only [okP, Bool.false_or, Bool.and_eq_true, frontB, List.all_eq_true, List.mem_range] at hok
    have := hok.1 j (Array.getElem?_eq_some_iff.1 hj).1
    simp only [hr, Bool.not_true, Bool.false_or, Bool.and_eq_true] at this
    refine runP_front this.2 ?_ h
    simp only [okP, Bool.true_or, Bool.true_and, Bool.and_eq_true]
    exact hok.2
  | .bl i p, m, a, w, hok, hr, h => by
    simp only [okP, Bool.not_false, Bool.true_and, Bool.and_eq_true, bne_iff_ne] at hok
    obtain ⟨hri, hti, hokp⟩ := hok
    obtain ⟨oi, hoi, vi, hsi, h⟩ := h
    have hij : i ≠ j := by rintro rfl; exact hti htj
    have hapij := hap m i j oi oj hij hti hri hr hoi hj
    obtain ⟨h1, h2, h3⟩ := Oper.apart_spec hapij
    obtain ⟨p', hp', ih⟩ := runP_eff hj htj hokp (readyB_setm hr (Ne.symm hij)) h
    rw [setm_comm] at hp'
    refine ⟨.bl i p', ?_, ?_⟩
    · simp only [okP, Bool.not_false, Bool.true_and, Bool.and_eq_true, bne_iff_ne]
      exact ⟨readyB_setm hri hij, hti, hp'⟩
    · rw [wpOp_noQ hj, wanted_put oj a oi.dst vi h1] at ih
      rw [wpOp_noQ hj]
      have fin : ∀ (b : Act) (u : Value) (w' : World), b.tmps = a.tmps → ((need j = true → C w') ∧ runP P ops C T need Q p' ((b.put oi.dst vi).put oj.dst u) w') → ((need j = true → C w') ∧ runP P ops C T need Q (.bl i p') (b.put oj.dst u) w') := fun b u w' hb hk => by
        refine ⟨hk.1, oi, hoi, vi, (Sees.put (fun cs b => hsel i oi cs b hoi) h3).2 (hsi.tmps hb.symm), ?_⟩
        rw [← Act.put_comm b vi u h2]
        exact hk.2
      by_cases hw : Region.wanted oj (yielded ops a.tmps) = true
      · rw [if_pos hw] at ih ⊢
        exact wp_unput (fun cs b => hsel j oj cs b hj) h1 fin ih
      · rw [if_neg hw] at ih ⊢
        exact fin a undef w rfl ih

theorem runP_blind {j : Nat} {oj : Oper} (hj : ops[j]? = some oj) (htj : T j ≠ 0) : ∀ {p : Plan} {m : Nat → Bool} {a : Act} {w : World}, okP ops T p false m = true → readyB ops m j = true → runP P ops C T need Q p a w →
    ∃ v p', SeesT P ops C (T j) oj v a ∧ okP ops T p' false (setm m j) = true ∧ runP P ops C T need Q p' (a.put oj.dst v) w
  | .done, m, a, w, hok, hr, h => by
    have h1 := readyB_not hr
    simp only [okP, Bool.not_false, Bool.true_and, List.all_eq_true, List.mem_range] at hok
    rw [hok j (Array.getElem?_eq_some_iff.1 hj).1] at h1
    cases h1
  | .ef i p, m, a, w, hok, hr, h => by
    simp only [okP, Bool.false_or, Bool.and_eq_true, frontB, List.all_eq_true, List.mem_range] at hok
    have := hok.1 j (Array.getElem?_eq_some_iff.1 hj).1
    simp only [hr, Bool.not_true, Bool.false_or, Bool.and_eq_true, beq_iff_eq] at this
    exact absurd this.1 htj
  | .alt p q, m, a, w, hok, hr, h => by
    simp only [okP, Bool.false_or, Bool.and_eq_true, frontB, List.all_eq_true, List.mem_range] at hok
    have := hok.1 j (Array.getElem?_eq_some_iff.1 hj).1
    simp only [hr, Bool.not_true, Bool.false_or, Bool.and_eq_true, beq_iff_eq] at this
    exact absurd this.1 htj
  | .bl i p, m, a, w, hok, hr, h => by
    simp only [okP, Bool.not_false, Bool.true_and, Bool.and_eq_true, bne_iff_ne] at hok
    obtain ⟨hri, hti, hokp⟩ := hok
    obtain ⟨oi, hoi, vi, hsi, h⟩ := h
    by_cases hij : i = j
    · subst hij
      rw [hoi] at hj
      injection hj with hj
      subst hj
      exact ⟨vi, p, hsi, hokp, h⟩
    · have hapij := hap m i j oi oj hij hti hri hr hoi hj
      obtain ⟨h1, h2, h3⟩ := Oper.apart_spec hapij
      obtain ⟨v, p', hsj, hp', ih⟩ := runP_blind hj htj hokp (readyB_setm hr (Ne.symm hij)) h
      rw [setm_comm] at hp'
      refine ⟨v, .bl i p', (Sees.put (fun cs b => hsel j oj cs b hj) h1).1 hsj, ?_, oi, hoi, vi, (Sees.put (fun cs b => hsel i oi cs b hoi) h3).2 hsi, ?_⟩
      · simp only [okP, Bool.not_false, Bool.true_and, Bool.and_eq_true, bne_iff_ne]
        exact ⟨readyB_setm hri hij, hti, hp'⟩
      · rw [← Act.put_comm a vi v h2]
        exact ih
end

theorem okP_in_ready {T : Nat → Nat} : ∀ {p : Plan} {m : Nat → Bool}, okP ops T p true m = true → ∃ j, readyB ops m j = true
  | .done, m, h => by simp [okP] at h
  | .bl _ _, m, h => by simp [okP] at h
  | .ef j p, m, h => by simp only [okP, Bool.true_or, Bool.true_and, Bool.and_eq_true] at h; exact ⟨j, h.1⟩
  | .alt p q, m, h => by simp only [okP, Bool.true_or, Bool.true_and, Bool.and_eq_true] at h; exact okP_in_ready h.1

theorem tree_any {Q' : Exit → Act → World → Prop} {T : Nat → Nat} (hB : apartB ops T = true) (hQ : ∀ a w, Q a w → Q' .normal a w) :
    ∀ (n : Nat) (L : List Nat) (listed : Array Bool) (p : Plan) (m : Nat → Bool) (a : Act) (w : World), L.length = n → L.Pairwise (· < ·) → (∀ i, i ∈ L ↔ i < ops.size ∧ listed.getD i true = false) → (∀ i, i < ops.size → m i = listed.getD i true) → listed.size = ops.size → Closed .any ops listed → ((∃ i, i < ops.size ∧ m i = false ∧ T i = 1) → C w) → okP ops T p false m = true → runP P ops C T (needB ops T) Q p a w →
      wpAny P .any ops Q' n listed a w := by
  simp only [apartB, Bool.and_eq_true, List.all_eq_true, List.mem_range] at hB
  obtain ⟨hsel0, hB⟩ := hB
  have hsel := Region.noSelect_spec hsel0
  have gd : ∀ (l : Array Bool) (i : Nat), i < l.size → l.getD i true = l.getD i false := fun l i hi => by simp [hi]
  have hwt : ∀ (m : Nat → Bool) (i j : Nat), readyB ops m i = true → readyB ops m j = true → waitsB .any ops j i = true → False := fun m i j hi hj hw => by
    have h1 := readyB_not hi
    obtain ⟨o, ho⟩ := readyB_some hj
    unfold readyB at hj
    simp only [ho, Option.map_some, Option.getD_some, Bool.and_eq_true, List.all_eq_true, Bool.or_eq_true, Bool.not_eq_true'] at hj
    simp only [waitsB, ho, Option.map_some, Option.getD_some, List.any_eq_true, Bool.and_eq_true, beq_iff_eq] at hw
    obtain ⟨e, he, hb, rfl⟩ := hw
    rcases hj.2 e he with h | h
    · rw [hb] at h; cases h
    · rw [h] at h1; cases h1
  have hap : ∀ (m : Nat → Bool) (i j : Nat) oi oj, i ≠ j → T i ≠ 0 → readyB ops m i = true → readyB ops m j = true → ops[i]? = some oi → ops[j]? = some oj → oi.apart ops oj = true := fun m i j oi oj hij ht hi hj hoi hoj => by
    have := (hB j (Array.getElem?_eq_some_iff.1 hoj).1).2 i (Array.getElem?_eq_some_iff.1 hoi).1
    simp only [Bool.or_eq_true, beq_iff_eq, hoi, hoj, Option.bind_some, Option.map_some, Option.getD_some] at this
    rcases this with (((h | h) | h) | h) | h
    · exact absurd h hij
    · exact absurd h ht
    · exact absurd h (fun h => hwt m i j hi hj h)
    · exact absurd h (fun h => hwt m j i hj hi h)
    · exact h
  intro n
  induction n with
  | zero =>
    intro L listed p m a w hn _ hL hm _ _ _ hok h
    have hL0 : L = [] := List.eq_nil_of_length_eq_zero hn
    subst hL0
    have hall : ∀ i, i < ops.size → m i = true := fun i hi => by
      rw [hm i hi]
      rcases hx : listed.getD i true with _ | _
      · exact absurd ((hL i).2 ⟨hi, hx⟩) (by simp)
      · rfl
    have hno : ∀ j, readyB ops m j = true → False := fun j hr => by
      obtain ⟨o, ho⟩ := readyB_some hr
      have h1 := readyB_not hr
      rw [hall j (Array.getElem?_eq_some_iff.1 ho).1] at h1
      cases h1
    refine ⟨?_, ?_⟩
    · rcases hr : Region.ready .any ops listed with _ | ⟨j, r⟩
      · rfl
      · have hj : j ∈ Region.ready .any ops listed := by rw [hr]; exact List.mem_cons_self ..
        obtain ⟨hu, o, ho, _⟩ := mem_ready.1 hj
        exact absurd ((hL j).2 ⟨(Array.getElem?_eq_some_iff.1 ho).1, hu⟩) (by simp)
    · cases p with
      | done => exact hQ _ _ h
      | bl j p => simp only [okP, Bool.and_eq_true] at hok; exact (hno j hok.2.1).elim
      | ef j p => simp only [okP, Bool.and_eq_true] at hok; exact (hno j hok.2.1).elim
      | alt p q => simp only [okP, Bool.and_eq_true] at hok; obtain ⟨j, hj⟩ := okP_in_ready hok.2.1; exact (hno j hj).elim
  | succ n ih =>
    intro L listed p m a w hn hP hL hm hsz hcl hC hok h
    refine ⟨fun hr => ?_, fun j hj => ?_⟩
    · match L, hn with
      | i :: L', _ =>
        exfalso
        obtain ⟨hi, hui⟩ := (hL i).1 (List.mem_cons_self ..)
        have : i ∈ Region.ready .any ops listed := by
          rw [mem_ready]
          refine ⟨hui, ops[i], Array.getElem?_eq_getElem hi, fun e he hb => ?_⟩
          have h1 := (hB i hi).1
          simp only [Array.getElem?_eq_getElem hi, Option.map_some, Option.getD_some, List.all_eq_true, Bool.or_eq_true, Bool.not_eq_true', decide_eq_true_eq] at h1
          have h2 := (h1 e (Array.mem_toList_iff.2 he)).resolve_left (by rw [hb]; simp)
          rcases hx : listed.getD e.on false with _ | _
          · have hmm : e.on ∈ i :: L' := (hL e.on).2 ⟨by omega, by rw [gd listed _ (by omega)]; exact hx⟩
            rcases List.mem_cons.1 hmm with he | he
            · omega
            · have := (List.pairwise_cons.1 hP).1 _ he
              omega
          · rfl
        rw [hr] at this
        cases this
    · obtain ⟨hu, oj, hoj, hall⟩ := mem_ready.1 hj
      have hjs : j < ops.size := (Array.getElem?_eq_some_iff.1 hoj).1
      have hjL : j ∈ L := (hL j).2 ⟨hjs, hu⟩
      have hrj : readyB ops m j = true := by
        unfold readyB
        rw [hm j hjs, hu]
        simp only [hoj, Option.map_some, Option.getD_some, Bool.not_false, Bool.true_and, List.all_eq_true, Bool.or_eq_true, Bool.not_eq_true']
        intro e he
        cases hb : Region.binds .any e with
        | false => exact .inl rfl
        | true =>
          right
          have h1 := hall e (Array.mem_toList_iff.1 he) hb
          have h2 := (hB j hjs).1
          simp only [hoj, Option.map_some, Option.getD_some, List.all_eq_true, Bool.or_eq_true, Bool.not_eq_true', decide_eq_true_eq] at h2
          have h3 := (h2 e he).resolve_left (by rw [hb]; simp)
          rw [hm e.on (by omega), gd listed e.on (by omega)]
          exact h1
      obtain ⟨L1, L2, rfl⟩ := List.append_of_mem hjL
      rw [List.pairwise_append] at hP
      obtain ⟨hP1, hP2, hP12⟩ := hP
      have hnd : j ∉ L1 ++ L2 := by
        intro hx
        rcases List.mem_append.1 hx with hx | hx
        · have := hP12 j hx j (List.mem_cons_self ..); omega
        · have := (List.pairwise_cons.1 hP2).1 j hx; omega
      have hnext : ∀ p' a' w', ((∃ i, i < ops.size ∧ setm m j i = false ∧ T i = 1) → C w') → okP ops T p' false (setm m j) = true → runP P ops C T (needB ops T) Q p' a' w' → wpAny P .any ops Q' n (listed.setIfInBounds j true) a' w' := fun p' a' w' hC' hok' hrun => by
        refine ih (L1 ++ L2) _ p' (setm m j) a' w' (by simp at hn ⊢; omega) ?_ (fun i => ?_) (fun i hi => ?_) (by simpa using hsz) (fun k o ho hk e he hb => ?_) hC' hok' hrun
        · rw [List.pairwise_append]
          exact ⟨hP1, (List.pairwise_cons.1 hP2).2, fun x hx y hy => hP12 x hx y (List.mem_cons_of_mem _ hy)⟩
        · by_cases hij : i = j
          · subst hij
            simp only [hnd, false_iff, not_and]
            intro _
            simp [show i < listed.size by omega]
          · rw [getD_set_ne true (Ne.symm hij), ← hL i]
            simp [hij]
        · by_cases hij : i = j
          · subst hij
            simp [setm, show i < listed.size by omega]
          · rw [getD_set_ne true (Ne.symm hij), ← hm i hi]
            simp [setm, hij]
        · by_cases hkj : k = j
          · subst hkj
            rw [hoj] at ho
            injection ho with ho
            subst ho
            exact getD_set_true (hall e he hb)
          · rw [getD_set_ne false (Ne.symm hkj)] at hk
            exact getD_set_true (hcl k o ho hk e he hb)
      refine wpOp_ofNoQ ?_
      by_cases htj : T j = 0
      · obtain ⟨p', hp', hw⟩ := runP_eff hsel hap hoj htj hok hrj h
        refine wpOp_mono (fun a' w' hk => hnext p' a' w' (fun ⟨i, hi, hmi, hti⟩ => hk.1 ?_) hp' hk.2) hw
        have hlj : ∀ i, i < ops.size → reachB .any ops (j + 1) j i = true → m i = true := fun i hi hr => by
          rw [hm i hi, gd listed i (by omega)]
          exact reach_listed hcl (j + 1) j i hr fun o ho e he hb => by
            rw [hoj] at ho
            injection ho with ho
            subst ho
            exact hall e he hb
        unfold needB
        rw [List.any_eq_true]
        refine ⟨i, List.mem_range.2 hi, ?_⟩
        rw [Bool.and_eq_true, beq_iff_eq]
        refine ⟨hti, ?_⟩
        cases hx : reachB .any ops (j + 1) j i with
        | false => rfl
        | true =>
          have := hlj i hi hx
          simp only [setm, this, Bool.or_true] at hmi
          cases hmi
      · obtain ⟨v, p', hs, hp', hrun⟩ := runP_blind hsel hap hoj htj hok hrj h
        have hcw : clsT C (T j) w := by
          intro h1
          exact hC ⟨j, hjs, readyB_not hrj, h1⟩
        exact wpOp_blind hoj hcw hs (hnext p' _ w (fun ⟨i, hi, hmi, hti⟩ => hC ⟨i, hi, by
          simp only [setm, Bool.or_eq_false_iff] at hmi; exact hmi.2, hti⟩) hp' hrun)

/-- a region that draws, its operations written out: ts says what they are (0: they act; 1: they look, in worlds of C; 2: they only compute) -/
theorem wp_region_tree {id : Nat} {Q : Exit → Act → World → Prop} {a : Act} {w : World} {l : List Oper} (C : World → Prop) (ts : List Nat) (pl : Plan) (hm : P.follows .mixedOrders = true) (hB : (apartB l.toArray (fun i => ts.getD i 0) && okP l.toArray (fun i => ts.getD i 0) pl false fun _ => false) = true) (hC : C w.drew)
    (h : runP P l.toArray C (fun i => ts.getD i 0) (needB l.toArray fun i => ts.getD i 0) (Q .normal) pl a w.drew) : (Code.region id l.toArray true).wp P Q a w := by
  refine wp_region_any hm ?_
  rw [Bool.and_eq_true] at hB
  have := tree_any (Q' := Q) hB.1 (fun _ _ h => h) l.length (List.range' 0 l.length) (Array.replicate l.toArray.size false) pl (fun _ => false) a w.drew (by simp) (List.pairwise_lt_range') (fun i => by
    simp [List.mem_range'_1]
    intro hi
    simp [hi]) (fun i hi => by simp at hi; simp [hi]) (by simp) (fun j o ho hl => by
    exfalso
    by_cases hj : j < l.length <;> simp [hj] at hl) (fun _ => hC) hB.2 h
  simpa using this

section
variable {l : List Oper} {T : Nat → Nat} {need : Nat → Bool} {j : Nat} {p : Plan} {o : Oper} {a : Act} {w : World}
theorem tree_done (h : Q a w) : runP P ops C T need Q .done a w := h
theorem tree_alt {q : Plan} (h1 : runP P ops C T need Q p a w) (h2 : runP P ops C T need Q q a w) : runP P ops C T need Q (.alt p q) a w := ⟨h1, h2⟩
theorem tree_look (k : Nat) (hk : T j = k) (ho : l[j]? = some o) (hw : Region.wanted o (yielded l.toArray a.tmps) = true) (hop : valueOp o.op = true) (d : Tmp) (hd : o.dst = some d) (hs : d < a.tmps.size)
    (h : ∀ K : Act → Prop, (∀ a', runP P l.toArray C T need Q p a' w → K a') → ∃ v, (∀ w', (k = 1 → C w') → ∀ K' : Act → World → Prop, K' (a.put o.dst v) w' → o.wp P a w' K' NoQ) ∧ K (a.put o.dst v)) : runP P l.toArray C T need Q (.bl j p) a w := by
  obtain ⟨v, hv, hm⟩ := h _ (fun _ h => h)
  subst hk
  refine ⟨o, by simpa using ho, v, .inl ⟨hw, fun w' hC => ?_⟩, hm⟩
  have h1 := hv w' hC (fun a' w'' => a' = a.put o.dst v ∧ w'' = w') ⟨rfl, rfl⟩
  unfold Oper.wp at h1
  cases hr : (execOp a.eval o).run P w' with
  | ok n w1 =>
    obtain ⟨u, rfl⟩ := value_of_run hop hr
    rw [hr] at h1
    simp only [Oper.upon] at h1
    obtain ⟨h2, rfl⟩ := h1
    have h3 := congrArg (fun x : Act => x.tmps[d]?) h2
    simp only [hd, Act.put, Array.getElem?_setIfInBounds_self_of_lt hs, Option.some.injEq] at h3
    rw [h3]
  | halt x w1 =>
    rw [hr] at h1
    cases x <;> simp only [Oper.upon] at h1 <;> exact absurd h1 id
/-- a look, in worlds of C -/
theorem tree_b (hk : T j = 1) (ho : l[j]? = some o) (hw : Region.wanted o (yielded l.toArray a.tmps) = true) (hop : valueOp o.op = true) (d : Tmp) (hd : o.dst = some d) (hs : d < a.tmps.size)
    (h : ∀ K : Act → Prop, (∀ a', runP P l.toArray C T need Q p a' w → K a') → ∃ v, (∀ w', C w' → ∀ K' : Act → World → Prop, K' (a.put o.dst v) w' → o.wp P a w' K' NoQ) ∧ K (a.put o.dst v)) : runP P l.toArray C T need Q (.bl j p) a w :=
  tree_look 1 hk ho hw hop d hd hs fun K hK => let ⟨v, h1, h2⟩ := h K hK; ⟨v, fun w' hC => h1 w' (hC rfl), h2⟩
/-- what only computes -/
theorem tree_p (hk : T j = 2) (ho : l[j]? = some o) (hw : Region.wanted o (yielded l.toArray a.tmps) = true) (hop : valueOp o.op = true) (d : Tmp) (hd : o.dst = some d) (hs : d < a.tmps.size)
    (h : ∀ K : Act → Prop, (∀ a', runP P l.toArray C T need Q p a' w → K a') → ∃ v, (∀ w', ∀ K' : Act → World → Prop, K' (a.put o.dst v) w' → o.wp P a w' K' NoQ) ∧ K (a.put o.dst v)) : runP P l.toArray C T need Q (.bl j p) a w :=
  tree_look 2 hk ho hw hop d hd hs fun K hK => let ⟨v, h1, h2⟩ := h K hK; ⟨v, fun w' _ => h1 w', h2⟩
theorem tree_skip (ho : l[j]? = some o) (hw : Region.wanted o (yielded l.toArray a.tmps) = false) (h : runP P l.toArray C T need Q p (a.put o.dst undef) w) : runP P l.toArray C T need Q (.bl j p) a w :=
  ⟨o, by simpa using ho, undef, .inr ⟨hw, rfl⟩, h⟩
theorem tree_n (ho : l[j]? = some o) (hw : Region.wanted o (yielded l.toArray a.tmps) = true) (x : Operand) (hop : o.op = .nilCheck x) (ad : Addr) (hx : a.eval x = .pointer (some ad))
    (h : runP P l.toArray C T need Q p (a.put o.dst (.pointer (some ad))) w) : runP P l.toArray C T need Q (.bl j p) a w := by
  refine ⟨o, by simpa using ho, _, .inl ⟨hw, fun w' _ => ?_⟩, h⟩
  unfold execOp
  simp [hop, hx]
/-- what acts -/
theorem tree_e (ho : l[j]? = some o) (hw : Region.wanted o (yielded l.toArray a.tmps) = true) (h : ∀ K : Act → World → Prop, (∀ a' w', C w' → runP P l.toArray C T need Q p a' w' → K a' w') → o.wp P a w K NoQ) : runP P l.toArray C T need Q (.ef j p) a w := by
  have h1 : l.toArray[j]? = some o := by simpa using ho
  unfold runP
  rw [wpOp_noQ h1, if_pos hw]
  exact h _ fun a' w' hC hm => ⟨(fun _ => hC), hm⟩
/-- what acts, behind all looks -/
theorem tree_e0 (hn : need j = false) (ho : l[j]? = some o) (hw : Region.wanted o (yielded l.toArray a.tmps) = true) (h : ∀ K : Act → World → Prop, (∀ a' w', True → runP P l.toArray C T need Q p a' w' → K a' w') → o.wp P a w K NoQ) : runP P l.toArray C T need Q (.ef j p) a w := by
  have h1 : l.toArray[j]? = some o := by simpa using ho
  unfold runP
  rw [wpOp_noQ h1, if_pos hw]
  exact h _ fun a' w' _ hm => ⟨(fun h => by rw [hn] at h; cases h), hm⟩
theorem tree_eskip (hC : need j = true → C w) (ho : l[j]? = some o) (hw : Region.wanted o (yielded l.toArray a.tmps) = false) (h : runP P l.toArray C T need Q p (a.put o.dst undef) w) : runP P l.toArray C T need Q (.ef j p) a w := by
  have h1 : l.toArray[j]? = some o := by simpa using ho
  unfold runP
  rw [wpOp_noQ h1, if_neg (by simp [hw])]
  exact ⟨hC, h⟩
end
end Go.Bl

namespace Go.Bl
open Go
def Typ (w : World) (g : Nat) (t : TypeId) : Prop := ∃ cs k, w.heap[g]? = some (.cells cs t k)
theorem Typ.new (w : World) (cs : Array Value) (t : TypeId) : Typ (w.alloc (.cells cs t)) w.heap.size t := ⟨cs, (0, 0), heap_alloc_new w _⟩
theorem Typ.lt {w : World} {g : Nat} {t : TypeId} (h : Typ w g t) : g < w.heap.size := by
  obtain ⟨cs, k, h⟩ := h
  exact (Array.getElem?_eq_some_iff.1 h).1
theorem Typ.gr {w w' : World} {g : Nat} {t : TypeId} {r : Option Nat} (h : Typ w g t) (hg : w.grownBy w' r) (hr : r ≠ some g) : Typ w' g t := by
  have hl := h.lt
  obtain ⟨cs, k, h⟩ := h
  exact ⟨cs, k, (hg.block g hl (Ne.symm hr)).trans h⟩
theorem Typ.uniq {w : World} {g : Nat} {t u : TypeId} (h : Typ w g t) (k : Typ w g u) : t = u := by
  obtain ⟨cs, k1, h⟩ := h
  obtain ⟨cs', k2, k⟩ := k
  rw [h] at k
  injection k with k
  injection k
theorem Own.typ {α : Type} [Enc α] {w : World} {lo : Nat} {e : TypeId} {A : Option Addr} {c : Nat} {l : List α} (h : Own w lo e A c l) {g : Nat} (hg : blk A = some g) : Typ w g e := by
  obtain ⟨_, cs, _, ho⟩ := h
  rcases ho.2 with ⟨h1, _⟩ | ⟨g', cap, cur, hv, _, hh, _⟩
  · injection h1 with h1
    subst h1
    cases hg
  · injection hv with hv
    subst hv
    simp only [blk, Option.map_some, Option.some.injEq] at hg
    subst hg
    exact ⟨cur, _, hh⟩
/-- a block of a type whose first cells are known and open -/
def Box (w : World) (g : Nat) (t : TypeId) (vs : List Value) : Prop := Typ w g t ∧ ∀ i v, vs[i]? = some v → Cell w g i v
section
variable {w w' : World} {g : Nat} {t : TypeId} {vs : List Value}
theorem Box.new (w : World) (vs : List Value) (t : TypeId) : Box (w.alloc (.cells vs.toArray t)) w.heap.size t vs := ⟨Typ.new _ _ _, fun i v h => Cell.new w vs t i v h _ rfl⟩
theorem Box.lt (h : Box w g t vs) : g < w.heap.size := h.1.lt
theorem Box.c (h : Box w g t vs) (i : Nat) {v : Value} (hv : vs[i]? = some v) : Cell w g i v := h.2 i v hv
theorem Box.gr {r : Option Nat} (h : Box w g t vs) (hg : w.grownBy w' r) (hr : r ≠ some g) : Box w' g t vs := ⟨h.1.gr hg hr, fun i v hv => (h.2 i v hv).gr hg hr⟩
theorem Box.pure (h : Box w g t vs) (hg : w.grownBy w' none) : Box w' g t vs := h.gr hg (by simp)
theorem Typ.set_ (h : Typ w g t) (p : Addr) (v : Value) : Typ (w.setCell p v) g t := by
  obtain ⟨cs, k, h⟩ := h
  unfold World.setCell
  by_cases hp : p.block = g
  · subst hp
    exact ⟨if p.spot.isSome then cs else cs.setIfInBounds p.off v, k, by simp only [Array.getElem?_modify, if_true, h, Option.map_some]⟩
  · exact ⟨cs, k, by simp only [Array.getElem?_modify, if_neg hp, h]⟩
theorem Box.set_ (h : Box w g t vs) (i : Nat) (v : Value) (hi : i < vs.length) : Box (w.setCell ⟨g, i, none⟩ v) g t (vs.set i v) := by
  refine ⟨h.1.set_ _ _, fun j u hu => ?_⟩
  rw [List.getElem?_set] at hu
  by_cases hij : i = j
  · subst hij
    rw [if_pos rfl, if_pos hi] at hu
    injection hu with hu
    subst hu
    exact (h.2 i vs[i] (List.getElem?_eq_getElem hi)).set_ v
  · rw [if_neg hij] at hu
    exact (h.2 j u hu).set_ne v hij
theorem Box.set_other (h : Box w g t vs) {g' i : Nat} (v : Value) (hg : g' ≠ g) : Box (w.setCell ⟨g', i, none⟩ v) g t vs := h.gr (gr_set (World.grownBy.refl w (some g')) (p := ⟨g', i, none⟩) (.inl rfl) v) (fun e => hg (by injection e))
theorem Own.set_other {α : Type} [Enc α] [Flat α] {lo : Nat} {e : TypeId} {A : Option Addr} {c : Nat} {l : List α} (h : Own w lo e A c l) {g' i : Nat} (v : Value) (hg : blk A ≠ some g') : Own (w.setCell ⟨g', i, none⟩ v) lo e A c l :=
  h.ne (gr_set (World.grownBy.refl w (some g')) (p := ⟨g', i, none⟩) (.inl rfl) v) (fun x hx e => hg (by rw [hx]; exact e.symm))
theorem Box.ne_own {α : Type} [Enc α] {lo : Nat} {e : TypeId} {A : Option Addr} {c : Nat} {l : List α} (h : Box w g t vs) (ho : Own w lo e A c l) (hne : e ≠ t) : blk A ≠ some g := fun e1 => hne ((ho.typ e1).uniq h.1)
theorem Box.sl {α : Type} [Enc α] {lo : Nat} {l : List α} (h : Box w g t vs) (hr : Row w lo l vs) (hl : lo ≤ g) (hm : l.length ≤ maxLen) : Sl w lo (some ⟨g, 0, none⟩) l :=
  ⟨hm, vs, hr, fun _ => ⟨_, rfl, hl, fun j u hu => by rw [Addr.add_lit, Nat.zero_add]; exact (h.2 j u hu).1⟩⟩
theorem Own.ne_own {α β : Type} [Enc α] [Enc β] {lo lo' : Nat} {e e' : TypeId} {A A' : Option Addr} {c c' : Nat} {l : List α} {l' : List β} (h : Own w lo e A c l) (h' : Own w lo' e' A' c' l') (hne : e ≠ e') {x : Nat} (hx : blk A = some x) : blk A' ≠ some x := fun e1 => hne ((h.typ hx).uniq (h'.typ e1))
end
end Go.Bl

namespace Go.Proofs.Ytjodjdjfagjiaaa
open Go.RowKit Go.Bl

/-- a face whose vertices lie n further on -/
def shF (n : Nat) (f : Fc) : Fc := ⟨f.a + n, f.b + n, f.c + n⟩
/-- two meshes as one -/
def joinM (a b : MeshV) : MeshV := ⟨a.vs ++ b.vs, a.fs ++ b.fs.map (shF a.vs.length)⟩
theorem right_in {vs : List V3} {fs : List Fc} (h : meshF ⟨vs, fs⟩ = 0) : ∀ f ∈ fs, inF vs.length f = true := by
  obtain ⟨-, h1, h2, h3, -⟩ := right_bd h
  have hL : ¬ (1000 < vs.length ∨ 1000 < fs.length) := by omega
  by_cases hf : vs.any farV = true
  · rw [meshF_far h3 hL hf] at h; cases h
  · by_cases hc : facesF vs fs = 0
    · exact fun f hm => faceF_in (facesF_mem hc f hm)
    · rw [meshF_face h3 hL (by simpa using hf) hc] at h; exact absurd h hc

/-- the faces behind k rounds -/
def jnK (n : Nat) (fs fs2 : List Fc) (k : Nat) : List Fc := fs ++ (fs2.take k).map (shF n)
theorem jnK_len {n : Nat} {fs fs2 : List Fc} {k : Nat} (h : k ≤ fs2.length) : (jnK n fs fs2 k).length = fs.length + k := by
  unfold jnK; rw [List.length_append, List.length_map, List.length_take, Nat.min_eq_left h]
theorem jnK_zero (n : Nat) (fs fs2 : List Fc) : jnK n fs fs2 0 = fs := by simp [jnK]
theorem jnK_all (vs vs2 : List V3) (fs fs2 : List Fc) : jnK vs.length fs fs2 fs2.length = (joinM ⟨vs, fs⟩ ⟨vs2, fs2⟩).fs := by simp [jnK, joinM]
theorem jnK_snoc {n : Nat} {fs fs2 : List Fc} {k : Nat} (h : k < fs2.length) : jnK n fs fs2 (k + 1) = jnK n fs fs2 k ++ [shF n fs2[k]] := by
  unfold jnK; rw [take_snoc h, List.map_append, List.append_assoc]; rfl
/-- what stands behind the making of the joined mesh -/
def JnR (W : World) (la lb : List V3) (lf : List Fc) (v : Value) (wx : World) : Prop := ∃ (g : Nat) (A5 : Option Addr) (c5 : Nat) (B8 : Option Addr) (d8 : Nat), v = .pointer (some ⟨g, 0, none⟩) ∧ W.heap.size ≤ g ∧ Box wx g 29 [.slice A5 (la.length + lb.length) c5, .slice B8 lf.length d8] ∧ Own wx W.heap.size 49 A5 c5 (la ++ lb) ∧ Own wx W.heap.size 67 B8 d8 lf ∧ W.grownBy wx none
theorem JnR.fin {W wx : World} {g : Nat} {A5 B8 : Option Addr} {c5 d8 : Nat} {la lb : List V3} {lf : List Fc} {u v : Value} (hg : W.heap.size ≤ g) (hb : Box wx g 29 [u, v]) (ho5 : Own wx W.heap.size 49 A5 c5 (la ++ lb)) (ho8 : Own wx W.heap.size 67 B8 d8 lf) (hW : W.grownBy wx none) :
    JnR W la lb lf (.pointer (some ⟨g, 0, none⟩)) ((wx.setCell ⟨g, 0, none⟩ (.slice A5 (la.length + lb.length) c5)).setCell ⟨g, 1, none⟩ (.slice B8 lf.length d8)) :=
  ⟨g, A5, c5, B8, d8, rfl, hg, (hb.set_ 0 _ (by simp)).set_ 1 _ (by simp), (ho5.set_other _ (hb.ne_own ho5 (by decide))).set_other _ (hb.ne_own ho5 (by decide)), (ho8.set_other _ (hb.ne_own ho8 (by decide))).set_other _ (hb.ne_own ho8 (by decide)), gr_set (gr_set hW (.inr hg) _) (.inr hg) _⟩

set_option maxHeartbeats 4000000 in
set_option maxRecDepth 100000 in
theorem joinedRef_any (A : Option Addr) (c : Nat) (vs : List V3) (B : Option Addr) (d : Nat) (fs : List Fc) (A2 : Option Addr) (c2 : Nat) (vs2 : List V3) (B2 : Option Addr) (d2 : Nat) (fs2 : List Fc) (w : World) (h1 : Sl w 0 A vs) (h2 : Sl w 0 B fs) (h3 : Sl w 0 A2 vs2) (h4 : Sl w 0 B2 fs2) (hM1 : meshF ⟨vs, fs⟩ = 0) (hM2 : meshF ⟨vs2, fs2⟩ = 0) :
    Calls Try.prog 32 #[.agg #[.slice A vs.length c, .slice B fs.length d], .agg #[.slice A2 vs2.length c2, .slice B2 fs2.length d2]] w (SMeshE w.heap.size (okM (joinM ⟨vs, fs⟩ ⟨vs2, fs2⟩)) (meshF (joinM ⟨vs, fs⟩ ⟨vs2, fs2⟩)) w) := by
  obtain ⟨-, hvl, hfl, -, -⟩ := right_bd hM1
  obtain ⟨-, hvl2, hfl2, -, hv2⟩ := right_bd hM2
  have hin2 := right_in hM2
  replace hv2 := List.length_pos_iff.2 hv2
  obtain ⟨ga, oa, rfl, -, -, -⟩ := h3.v3 hv2
  clear hM1 hM2
  obtain ⟨W, hW⟩ : ∃ W, W = ((w.alloc (.cells #[.slice A vs.length c, .slice B fs.length d] 29)).alloc (.cells #[.slice (some ⟨ga, oa, none⟩) vs2.length c2, .slice B2 fs2.length d2] 29)).alloc (.cells #[.slice none 0 0, .slice none 0 0] 29) := ⟨_, rfl⟩
  have hWs : w.heap.size + 1 + 1 < W.heap.size := by rw [hW]; simp
  have hgW : w.grownBy W none := by rw [hW]; exact (by repeat (first | exact World.grownBy.refl _ _ | assumption | refine gr_alloc ?_ _ | (apply gr_tail; assumption) | refine gr_drewN ?_ _ | refine gr_drew ?_))
  have b0 : W.cell? ⟨w.heap.size, 0, none⟩ = some (.slice A vs.length c) := by rw [hW]; go_simp
  have b1 : W.cell? ⟨w.heap.size, 1, none⟩ = some (.slice B fs.length d) := by rw [hW]; go_simp
  have b2 : W.cell? ⟨w.heap.size + 1, 0, none⟩ = some (.slice (some ⟨ga, oa, none⟩) vs2.length c2) := by rw [hW]; go_simp
  have b3 : W.cell? ⟨w.heap.size + 1, 1, none⟩ = some (.slice B2 fs2.length d2) := by rw [hW]; go_simp
  have q0 : Cell W (w.heap.size + 1 + 1) 0 (.slice none 0 0) := by rw [hW]; exact ⟨by go_simp, by go_simp⟩
  have q1 : Cell W (w.heap.size + 1 + 1) 1 (.slice none 0 0) := by rw [hW]; exact ⟨by go_simp, by go_simp⟩
  replace hW := hide hW.symm
  replace hWs := hide hWs
  replace q0 := hide q0
  replace q1 := hide q1
  replace hin2 := hide hin2
  have hB : ∀ wx, W.grownBy wx none → wx.cell? ⟨w.heap.size, 0, none⟩ = some (.slice A vs.length c) ∧ wx.cell? ⟨w.heap.size, 1, none⟩ = some (.slice B fs.length d) ∧ wx.cell? ⟨w.heap.size + 1, 0, none⟩ = some (.slice (some ⟨ga, oa, none⟩) vs2.length c2) ∧ wx.cell? ⟨w.heap.size + 1, 1, none⟩ = some (.slice B2 fs2.length d2) := fun wx hx => ⟨hx.k b0, hx.k b1, hx.k b2, hx.k b3⟩
  replace hB := hide hB
  obtain ⟨i0, hi, hz, hi1, hi2⟩ := info_parts info_v3
  go_enter Try.func32, Try.ntmps32
  go_wp2_with fail
  rw [hW.out]
  go_wp2_with fail
  go_upto_region 2 with fail
  go_cut [7] from 13 to 22 (fun s7 wx => JnR W vs vs2 fs s7 wx)
  case first =>
    refine wp_region_tree (fun wx => W.grownBy wx none) [2, 1, 0, 2, 1, 0, 2, 1, 0, 2, 0, 0] (.bl 0 (.bl 1 (.bl 3 (.bl 4 (.bl 6 (.bl 7 (.alt (.ef 2 (.alt (.ef 5 (.alt (.ef 8 (.bl 9 (.ef 10 (.ef 11 .done)))) (.ef 10 (.ef 8 (.bl 9 (.ef 11 .done)))))) (.ef 10 (.ef 5 (.ef 8 (.bl 9 (.ef 11 .done))))))) (.ef 10 (.ef 2 (.ef 5 (.ef 8 (.bl 9 (.ef 11 .done))))))))))))) (by kernel_rfl) (by kernel_rfl) (gr_drew (World.grownBy.refl _ _)) ?_
    obtain ⟨W1, hW1⟩ : ∃ x, x = (W).drew := ⟨_, rfl⟩
    rw [← hW1]
    have hgW1 : (W).grownBy W1 none := by rw [hW1]; exact gr_drew (World.grownBy.refl _ _)
    clear hW1
    refine tree_p rfl rfl rfl rfl _ rfl (by simp) (fun K hK => ?_)
    apply Exists.intro
    refine ⟨fun wq K' hK' => ?_, ?_⟩
    · go_wp2_with fail
      exact hK'
    go_simp
    refine hK _ ?_
    clear hK K
    refine tree_b rfl rfl rfl rfl _ rfl (by simp) (fun K hK => ?_)
    apply Exists.intro
    refine ⟨fun wq hq K' hK' => ?_, ?_⟩
    · obtain ⟨c0, c1, c2, c3⟩ := hB.out wq hq
      go_wp2_with fail
      exact hK'
    go_simp
    refine hK _ ?_
    clear hK K
    refine tree_p rfl rfl rfl rfl _ rfl (by simp) (fun K hK => ?_)
    apply Exists.intro
    refine ⟨fun wq K' hK' => ?_, ?_⟩
    · go_wp2_with fail
      exact hK'
    go_simp
    refine hK _ ?_
    clear hK K
    refine tree_b rfl rfl rfl rfl _ rfl (by simp) (fun K hK => ?_)
    apply Exists.intro
    refine ⟨fun wq hq K' hK' => ?_, ?_⟩
    · obtain ⟨c0, c1, c2, c3⟩ := hB.out wq hq
      go_wp2_with fail
      exact hK'
    go_simp
    refine hK _ ?_
    clear hK K
    refine tree_p rfl rfl rfl rfl _ rfl (by simp) (fun K hK => ?_)
    apply Exists.intro
    refine ⟨fun wq K' hK' => ?_, ?_⟩
    · go_wp2_with fail
      exact hK'
    go_simp
    refine hK _ ?_
    clear hK K
    refine tree_b rfl rfl rfl rfl _ rfl (by simp) (fun K hK => ?_)
    apply Exists.intro
    refine ⟨fun wq hq K' hK' => ?_, ?_⟩
    · obtain ⟨c0, c1, c2, c3⟩ := hB.out wq hq
      go_wp2_with fail
      exact hK'
    go_simp
    refine hK _ ?_
    clear hK K
    refine tree_alt ?_ ?_
    · refine tree_e rfl rfl (fun K hK => ?_)
      go_wp2_with fail
      refine (cloneV3_any A c vs W1 (h1.pure (gr_trans hgW (gr_trans hgW1 (World.grownBy.refl _ _)))) (by omega)).mono ?_
      rintro e w2 ⟨A2, d2, rfl, ho2, hg2⟩
      have ho2 := ho2.lower (show W.heap.size ≤ (W1).heap.size from (gr_trans hgW1 (World.grownBy.refl _ _)).size)
      have hW2 : W.grownBy w2 none := gr_trans (gr_trans hgW1 (World.grownBy.refl _ _)) hg2
      go_wp2_with fail
      try go_simp
      refine hK _ _ (hW2) ?_
      clear hK K
      refine tree_alt ?_ ?_
      · refine tree_e rfl rfl (fun K hK => ?_)
        have ho2' := ho2.pure (w' := w2) (World.grownBy.refl _ _)
        have hW4 : W.grownBy w2 none := gr_trans hgW1 hg2
        refine wp_pushAt (α := V3) _ (.tmp 15) (.tmp 17) _ rfl W.heap.size 49 i0 _ 24 Try.underlying26 hi hz hi1 hi2 rfl _ _ _ vs rfl rfl ho2' 0 ⟨ga, oa, none⟩ _ _ vs2 rfl rfl (h3.pure (gr_trans hgW hW4)) ?_ ?_ ?_ ?_
        · first | omega | (simp; omega)
        · unfold maxLen; first | omega | (simp; omega)
        · exact hW4.size
        intro A5 c5 w5 ho5 hG5
        have hW5 : W.grownBy w5 none := gr_row hW4 hG5.1 (fun g e => (ho2'.blk_lt e).1)
        try go_simp
        refine hK _ _ (hW5) ?_
        clear hK K
        refine tree_alt ?_ ?_
        · refine tree_e0 (by kernel_rfl) rfl rfl (fun K hK => ?_)
          go_wp2_with fail
          refine (cloneFc_any B d fs w5 (h2.pure (gr_trans hgW (gr_trans hW5 (World.grownBy.refl _ _)))) (by omega)).mono ?_
          rintro e w8 ⟨B8, d8, rfl, ho8, hg8⟩
          have ho8 := ho8.lower (show W.heap.size ≤ (w5).heap.size from (gr_trans hW5 (World.grownBy.refl _ _)).size)
          go_wp2_with fail
          try go_simp
          refine hK _ _ trivial ?_
          clear hK K
          refine tree_p rfl rfl rfl rfl _ rfl (by simp) (fun K hK => ?_)
          apply Exists.intro
          refine ⟨fun wq K' hK' => ?_, ?_⟩
          · go_wp2_with fail
            exact hK'
          go_simp
          refine hK _ ?_
          clear hK K
          refine tree_e rfl rfl (fun K hK => ?_)
          go_wp2_with fail
          try go_simp
          refine hK _ _ (gr_alloc (gr_trans hW5 hg8) _) ?_
          clear hK K
          obtain ⟨w10, hw10⟩ : ∃ x, x = (w8).alloc (.cells [.slice none 0 0, .slice none 0 0].toArray 29) := ⟨_, rfl⟩
          have hg10 : (w8).grownBy w10 none := by rw [hw10]; exact gr_alloc (World.grownBy.refl _ _) _
          have hb10 : Box w10 (w8).heap.size 29 [.slice none 0 0, .slice none 0 0] := by rw [hw10]; exact Box.new _ _ _
          rw [← hw10]
          clear hw10
          have hl10 : W.heap.size ≤ (w8).heap.size := (gr_trans hW5 hg8).size
          refine tree_e0 (by kernel_rfl) rfl rfl (fun K hK => ?_)
          have hb11 := hb10.pure (w' := w10) (World.grownBy.refl _ _)
          obtain ⟨x0, y0⟩ := hb11.c 0 rfl
          obtain ⟨x1, y1⟩ := hb11.c 1 rfl
          have hF := JnR.fin (la := vs) (lb := vs2) (lf := fs) hl10 hb11 (ho5.pure (w' := w10) (gr_trans hg8 hg10)) (ho8.pure (w' := w10) hg10) (gr_trans hW5 (gr_trans hg8 hg10))
          replace hF := hide hF
          go_wp2_with fail
          try go_simp
          refine hK _ _ trivial ?_
          clear hK K
          refine tree_done ?_
          go_wp2_with fail
          go_meet
          exact hF.out
        · refine tree_e rfl rfl (fun K hK => ?_)
          go_wp2_with fail
          try go_simp
          refine hK _ _ (gr_alloc (gr_trans hW5 (World.grownBy.refl _ _)) _) ?_
          clear hK K
          obtain ⟨w10, hw10⟩ : ∃ x, x = (w5).alloc (.cells [.slice none 0 0, .slice none 0 0].toArray 29) := ⟨_, rfl⟩
          have hg10 : (w5).grownBy w10 none := by rw [hw10]; exact gr_alloc (World.grownBy.refl _ _) _
          have hb10 : Box w10 (w5).heap.size 29 [.slice none 0 0, .slice none 0 0] := by rw [hw10]; exact Box.new _ _ _
          rw [← hw10]
          clear hw10
          have hl10 : W.heap.size ≤ (w5).heap.size := (gr_trans hW5 (World.grownBy.refl _ _)).size
          refine tree_e0 (by kernel_rfl) rfl rfl (fun K hK => ?_)
          go_wp2_with fail
          refine (cloneFc_any B d fs w10 (h2.pure (gr_trans hgW (gr_trans hW5 hg10))) (by omega)).mono ?_
          rintro e w8 ⟨B8, d8, rfl, ho8, hg8⟩
          have ho8 := ho8.lower (show W.heap.size ≤ (w10).heap.size from (gr_trans hW5 hg10).size)
          go_wp2_with fail
          try go_simp
          refine hK _ _ trivial ?_
          clear hK K
          refine tree_p rfl rfl rfl rfl _ rfl (by simp) (fun K hK => ?_)
          apply Exists.intro
          refine ⟨fun wq K' hK' => ?_, ?_⟩
          · go_wp2_with fail
            exact hK'
          go_simp
          refine hK _ ?_
          clear hK K
          refine tree_e0 (by kernel_rfl) rfl rfl (fun K hK => ?_)
          have hb11 := hb10.pure (w' := w8) hg8
          obtain ⟨x0, y0⟩ := hb11.c 0 rfl
          obtain ⟨x1, y1⟩ := hb11.c 1 rfl
          have hF := JnR.fin (la := vs) (lb := vs2) (lf := fs) hl10 hb11 (ho5.pure (w' := w8) (gr_trans hg10 hg8)) (ho8.pure (w' := w8) (World.grownBy.refl _ _)) (gr_trans hW5 (gr_trans hg10 hg8))
          replace hF := hide hF
          go_wp2_with fail
          try go_simp
          refine hK _ _ trivial ?_
          clear hK K
          refine tree_done ?_
          go_wp2_with fail
          go_meet
          exact hF.out
      · refine tree_e rfl rfl (fun K hK => ?_)
        go_wp2_with fail
        try go_simp
        refine hK _ _ (gr_alloc (gr_trans hgW1 hg2) _) ?_
        clear hK K
        obtain ⟨w10, hw10⟩ : ∃ x, x = (w2).alloc (.cells [.slice none 0 0, .slice none 0 0].toArray 29) := ⟨_, rfl⟩
        have hg10 : (w2).grownBy w10 none := by rw [hw10]; exact gr_alloc (World.grownBy.refl _ _) _
        have hb10 : Box w10 (w2).heap.size 29 [.slice none 0 0, .slice none 0 0] := by rw [hw10]; exact Box.new _ _ _
        rw [← hw10]
        clear hw10
        have hl10 : W.heap.size ≤ (w2).heap.size := (gr_trans hgW1 hg2).size
        refine tree_e rfl rfl (fun K hK => ?_)
        have ho2' := ho2.pure (w' := w10) hg10
        have hW4 : W.grownBy w10 none := gr_trans hgW1 (gr_trans hg2 hg10)
        refine wp_pushAt (α := V3) _ (.tmp 15) (.tmp 17) _ rfl W.heap.size 49 i0 _ 24 Try.underlying26 hi hz hi1 hi2 rfl _ _ _ vs rfl rfl ho2' 0 ⟨ga, oa, none⟩ _ _ vs2 rfl rfl (h3.pure (gr_trans hgW hW4)) ?_ ?_ ?_ ?_
        · first | omega | (simp; omega)
        · unfold maxLen; first | omega | (simp; omega)
        · exact hW4.size
        intro A5 c5 w5 ho5 hG5
        have hb10 := (hb10.pure (w' := w10) (World.grownBy.refl _ _)).gr hG5.1 ((hb10.pure (w' := w10) (World.grownBy.refl _ _)).ne_own ho2' (by decide))
        have hW5 : W.grownBy w5 none := gr_row hW4 hG5.1 (fun g e => (ho2'.blk_lt e).1)
        try go_simp
        refine hK _ _ (hW5) ?_
        clear hK K
        refine tree_e0 (by kernel_rfl) rfl rfl (fun K hK => ?_)
        go_wp2_with fail
        refine (cloneFc_any B d fs w5 (h2.pure (gr_trans hgW (gr_trans hW5 (World.grownBy.refl _ _)))) (by omega)).mono ?_
        rintro e w8 ⟨B8, d8, rfl, ho8, hg8⟩
        have ho8 := ho8.lower (show W.heap.size ≤ (w5).heap.size from (gr_trans hW5 (World.grownBy.refl _ _)).size)
        go_wp2_with fail
        try go_simp
        refine hK _ _ trivial ?_
        clear hK K
        refine tree_p rfl rfl rfl rfl _ rfl (by simp) (fun K hK => ?_)
        apply Exists.intro
        refine ⟨fun wq K' hK' => ?_, ?_⟩
        · go_wp2_with fail
          exact hK'
        go_simp
        refine hK _ ?_
        clear hK K
        refine tree_e0 (by kernel_rfl) rfl rfl (fun K hK => ?_)
        have hb11 := hb10.pure (w' := w8) hg8
        obtain ⟨x0, y0⟩ := hb11.c 0 rfl
        obtain ⟨x1, y1⟩ := hb11.c 1 rfl
        have hF := JnR.fin (la := vs) (lb := vs2) (lf := fs) hl10 hb11 (ho5.pure (w' := w8) hg8) (ho8.pure (w' := w8) (World.grownBy.refl _ _)) (gr_trans hW5 hg8)
        replace hF := hide hF
        go_wp2_with fail
        try go_simp
        refine hK _ _ trivial ?_
        clear hK K
        refine tree_done ?_
        go_wp2_with fail
        go_meet
        exact hF.out
    · refine tree_e rfl rfl (fun K hK => ?_)
      go_wp2_with fail
      try go_simp
      refine hK _ _ (gr_alloc (gr_trans hgW1 (World.grownBy.refl _ _)) _) ?_
      clear hK K
      obtain ⟨w10, hw10⟩ : ∃ x, x = (W1).alloc (.cells [.slice none 0 0, .slice none 0 0].toArray 29) := ⟨_, rfl⟩
      have hg10 : (W1).grownBy w10 none := by rw [hw10]; exact gr_alloc (World.grownBy.refl _ _) _
      have hb10 : Box w10 (W1).heap.size 29 [.slice none 0 0, .slice none 0 0] := by rw [hw10]; exact Box.new _ _ _
      rw [← hw10]
      clear hw10
      have hl10 : W.heap.size ≤ (W1).heap.size := (gr_trans hgW1 (World.grownBy.refl _ _)).size
      refine tree_e rfl rfl (fun K hK => ?_)
      go_wp2_with fail
      refine (cloneV3_any A c vs w10 (h1.pure (gr_trans hgW (gr_trans hgW1 hg10))) (by omega)).mono ?_
      rintro e w2 ⟨A2, d2, rfl, ho2, hg2⟩
      have ho2 := ho2.lower (show W.heap.size ≤ (w10).heap.size from (gr_trans hgW1 hg10).size)
      have hW2 : W.grownBy w2 none := gr_trans (gr_trans hgW1 hg10) hg2
      go_wp2_with fail
      try go_simp
      refine hK _ _ (hW2) ?_
      clear hK K
      refine tree_e rfl rfl (fun K hK => ?_)
      have ho2' := ho2.pure (w' := w2) (World.grownBy.refl _ _)
      have hW4 : W.grownBy w2 none := gr_trans hgW1 (gr_trans hg10 hg2)
      refine wp_pushAt (α := V3) _ (.tmp 15) (.tmp 17) _ rfl W.heap.size 49 i0 _ 24 Try.underlying26 hi hz hi1 hi2 rfl _ _ _ vs rfl rfl ho2' 0 ⟨ga, oa, none⟩ _ _ vs2 rfl rfl (h3.pure (gr_trans hgW hW4)) ?_ ?_ ?_ ?_
      · first | omega | (simp; omega)
      · unfold maxLen; first | omega | (simp; omega)
      · exact hW4.size
      intro A5 c5 w5 ho5 hG5
      have hb10 := (hb10.pure (w' := w2) hg2).gr hG5.1 ((hb10.pure (w' := w2) hg2).ne_own ho2' (by decide))
      have hW5 : W.grownBy w5 none := gr_row hW4 hG5.1 (fun g e => (ho2'.blk_lt e).1)
      try go_simp
      refine hK _ _ (hW5) ?_
      clear hK K
      refine tree_e0 (by kernel_rfl) rfl rfl (fun K hK => ?_)
      go_wp2_with fail
      refine (cloneFc_any B d fs w5 (h2.pure (gr_trans hgW (gr_trans hW5 (World.grownBy.refl _ _)))) (by omega)).mono ?_
      rintro e w8 ⟨B8, d8, rfl, ho8, hg8⟩
      have ho8 := ho8.lower (show W.heap.size ≤ (w5).heap.size from (gr_trans hW5 (World.grownBy.refl _ _)).size)
      go_wp2_with fail
      try go_simp
      refine hK _ _ trivial ?_
      clear hK K
      refine tree_p rfl rfl rfl rfl _ rfl (by simp) (fun K hK => ?_)
      apply Exists.intro
      refine ⟨fun wq K' hK' => ?_, ?_⟩
      · go_wp2_with fail
        exact hK'
      go_simp
      refine hK _ ?_
      clear hK K
      refine tree_e0 (by kernel_rfl) rfl rfl (fun K hK => ?_)
      have hb11 := hb10.pure (w' := w8) hg8
      obtain ⟨x0, y0⟩ := hb11.c 0 rfl
      obtain ⟨x1, y1⟩ := hb11.c 1 rfl
      have hF := JnR.fin (la := vs) (lb := vs2) (lf := fs) hl10 hb11 (ho5.pure (w' := w8) hg8) (ho8.pure (w' := w8) (World.grownBy.refl _ _)) (gr_trans hW5 hg8)
      replace hF := hide hF
      go_wp2_with fail
      try go_simp
      refine hK _ _ trivial ?_
      clear hK K
      refine tree_done ?_
      go_wp2_with fail
      go_meet
      exact hF.out
  case rest =>
  clear i0 hi hz hi1 hi2
  obtain ⟨g, A5, c5, B8, d8, rfl, hgl, hb, ho5, ho8, hgw⟩ := hcut
  rename World => wc
  have hwW := gr_trans hgW hgw
  have c0 := hgw.k b0
  have c3 := hgw.k b3
  go_upto_if 27 with fail
  go_loopw [26] (fun i wr => ∃ (k : Nat) (B' : Option Addr) (d' : Nat), k ≤ fs2.length ∧ i = .int .i64 k ∧ Box wr g 29 [.slice A5 (vs.length + vs2.length) c5, .slice B' (fs.length + k) d'] ∧ Own wr W.heap.size 49 A5 c5 (vs ++ vs2) ∧ Own wr W.heap.size 67 B' d' (jnK vs.length fs fs2 k) ∧ W.grownBy wr none) (fun i _ => fs2.length - (intOf i).toNat)
  case atStart => exact ⟨0, B8, d8, by omega, rfl, hb, ho5, by rw [jnK_zero]; exact ho8, hgw⟩
  case round =>
    obtain ⟨k, B', d', hk, rfl, hb, ho5, ho8, hg⟩ := hrel
    have hgt := hb.lt
    obtain ⟨y0, z0⟩ := hb.c 0 rfl
    obtain ⟨y1, z1⟩ := hb.c 1 rfl
    have hlen : Hid ((jnK vs.length fs fs2 k).length = fs.length + k) := jnK_len hk
    by_cases hlt : k < fs2.length
    · obtain ⟨gf, of, rfl, -, hbg, hcc⟩ := (h4.pure (gr_trans hgW hg)).fc (by omega)
      obtain ⟨x0, x1, x2⟩ := hcc k hlt
      clear hcc
      have hmem := List.getElem_mem hlt
      obtain ⟨⟨p1, p2⟩, ⟨p3, p4⟩, p5, p6⟩ := inF_bd (hin2.out _ hmem)
      have hsn : Hid (jnK vs.length fs fs2 (k + 1) = jnK vs.length fs fs2 k ++ [shF vs.length fs2[k]]) := jnK_snoc hlt
      generalize fs2[k] = f at *
      obtain ⟨fa, fb, fc⟩ := f
      simp only at x0 x1 x2 p1 p2 p3 p4 p5 p6
      replace ho8 := hide ho8
      replace ho5 := hide ho5
      have hq := gr_alloc (gr_alloc (World.grownBy.refl wr none) (.cells #[.int .i64 fa, .int .i64 fb, .int .i64 fc] 67)) (.cells #[.int .i64 (fa + vs.length), .int .i64 (fb + vs.length), .int .i64 (fc + vs.length)] 67)
      go_wp2_with (at_builtin; obtain ⟨i0, hi, hz, h1, h2⟩ := info_parts info_face; refine wpList_pushAt (α := Fc) _ rfl (.tmp 31) (.tmp 45) _ rfl W.heap.size 67 i0 _ 24 Try.underlying27 hi hz h1 h2 rfl _ _ _ (jnK vs.length fs fs2 k) rfl ?c1 (by exact (ho8.out.pure hq)) 0 ⟨_, 0, none⟩ 1 1 [⟨_, _, _⟩] rfl rfl (by exact (sl_oneAt _ 0 _ _ _ _ (by first | rfl | simp) (Nat.zero_le _) rfl)) ?c2 ?c3 ?c4 ?_)
      case c1 => exact hlen.out.symm
      case c2 => rw [hlen.out]; simp; omega
      case c3 => rw [hlen.out]; simp [maxLen]; omega
      case c4 => have := hg.size; have := hq.size; omega
      intro B5 d5 w5 ho8' hG5
      have hbq := hb.pure hq
      have hoq := ho8.out.pure hq
      have hb5 := hbq.gr hG5.1 (hbq.ne_own hoq (by decide))
      have hg5 : W.grownBy w5 none := gr_row (gr_trans hg hq) hG5.1 (fun x e => (hoq.blk_lt e).1)
      have ho5q := ho5.out.pure hq
      have ho55 := ho5q.ne hG5.1 (fun x hx => ho5q.ne_own hoq (by decide) hx)
      obtain ⟨y0, z0⟩ := hb5.c 0 rfl
      obtain ⟨y1, z1⟩ := hb5.c 1 rfl
      have hb6 := hide (hb5.set_ 1 (.slice B5 (fs.length + k + 1) d5) (by simp))
      have ho56 := hide (ho55.set_other (i := 1) (.slice B5 (fs.length + k + 1) d5) (hb5.ne_own ho55 (by decide)))
      rw [show ([⟨fa + vs.length, fb + vs.length, fc + vs.length⟩] : List Fc) = [shF vs.length ⟨fa, fb, fc⟩] from rfl, ← hsn.out] at ho8'
      have ho86 := hide (ho8'.set_other (i := 1) (.slice B5 (fs.length + k + 1) d5) (hb5.ne_own ho8' (by decide)))
      have hg6 := hide (gr_set hg5 (p := ⟨g, 1, none⟩) (.inr hgl) (.slice B5 (fs.length + k + 1) d5))
      rw [hlen.out]
      clear hb5 hbq hoq ho5q ho55 ho8' hG5 hq hb
      go_wp2_with fail
      (go_roundw; (case rel => exact ⟨k + 1, B5, d5, by omega, by go_num, hb6.out, ho56.out, ho86.out, hg6.out⟩); (case measure => simp [intOf]; omega))
    · have hkn : k = fs2.length := by omega
      subst hkn
      rw [jnK_all vs vs2 fs fs2] at ho8 hlen
      have hR := right_any A5 c5 (vs ++ vs2) B' d' (joinM ⟨vs, fs⟩ ⟨vs2, fs2⟩).fs wr W.heap.size ho5.sl ho8.sl
      rw [hlen.out, List.length_append] at hR
      replace hR := hide hR
      obtain ⟨m0, f0⟩ := q0.out.gr hg (by simp)
      obtain ⟨m1, f1⟩ := q1.out.gr hg (by simp)
      have hwr := gr_trans hgW hg
      clear ho8 ho5 hlen
      go_wp2_with fail
      refine hR.out.mono ?_
      rintro e w1 ⟨A9, c9, B9, d9, rfl, hs9, hf9, hg9⟩
      have hle := hWs.out
      obtain ⟨m0, f0⟩ := Cell.gr ⟨m0, f0⟩ hg9 (by simp)
      obtain ⟨m1, f1⟩ := Cell.gr ⟨m1, f1⟩ hg9 (by simp)
      have hgs := fun (v1 v2 : Value) => gr_set (gr_set (World.grownBy.refl w1 (some (w.heap.size + 1 + 1))) (p := ⟨w.heap.size + 1 + 1, 0, none⟩) (.inl rfl) v1) (p := ⟨w.heap.size + 1 + 1, 1, none⟩) (.inl rfl) v2
      have hk := fun v1 v2 => gr_row (gr_trans hwr hg9) (hgs v1 v2) (fun g e => by injection e; omega)
      replace hgs := hide hgs
      replace hk := hide hk
      rw [show (⟨vs ++ vs2, (joinM ⟨vs, fs⟩ ⟨vs2, fs2⟩).fs⟩ : MeshV) = joinM ⟨vs, fs⟩ ⟨vs2, fs2⟩ from rfl] at hs9 hf9 ⊢
      generalize joinM ⟨vs, fs⟩ ⟨vs2, fs2⟩ = J at *
      generalize meshF J = F at *
      generalize okM J = R at *
      go_wp2_with fail
      exact bodyPost_ret (v := .tuple #[.agg #[.slice A9 R.vs.length c9, .slice B9 R.fs.length d9], .int .i64 F]) (by simp [results, Try.results32, go_sem, m0, m1, f0, f1]) rfl ⟨A9, c9, B9, d9, rfl, (hs9.gr (hgs.out _ _) (fun g e => by injection e; omega)).mono (by omega), (hf9.gr (hgs.out _ _) (fun g e => by injection e; omega)).mono (by omega), hk.out _ _⟩

end Go.Proofs.Ytjodjdjfagjiaaa

namespace Go.Bl
open Go Go.RowKit
variable {P : Program}

theorem run_growNil {α : Type} [Enc α] [Flat α] (w : World) (t tn e : TypeId) (i : TypeInfo) (z : Value) (kn : IntKind) (ht : P.underlying t = some (.slice e)) (htn : P.underlying tn = some (.int kn)) (hi : P.info? e = some i) (hz : i.zero = some z)
    (hsize : i.size = Enc.sz α) (hzs : z.cells.size = Enc.sz α) (n : Nat) (hn : 0 < n) (hby : n * i.bytes ≤ 140737488355328) (h63 : n ≤ 1000000000000) :
    ∃ G w', (∀ ty, (Builtin.append_ #[t, tn] ty #[.slice none 0 0, .int .i64 (n : Int)]).run P w = .ok (.slice (some ⟨w.heap.size, 0, none⟩) n G) w') ∧ Own w' w.heap.size e (some ⟨w.heap.size, 0, none⟩) G ([] : List α) ∧ w.grownBy w' none ∧ n ≤ G ∧ G ≤ 9223372036854775807 := by
  have hp : 0 < i.size := by rw [hsize]; exact Flat.pos
  have h := fun ty => Lib.run_append_grow_zeros (P := P) w t tn ty e i z .i64 kn ht htn hi hz none 0 0 [] (run_firstCells_none w.drew i.size 0 0 0) n hn hp (by omega) (by omega) (by omega) (growslice_fits (by omega) (by simpa using hby))
  simp only [Nat.zero_add] at h
  have hge := grownCap_ge w n 0 e
  have hle := grownCap_le_maxLen w n 0 e (by unfold maxLen; omega)
  refine ⟨_, _, h, ⟨by simp [maxLen], [], rfl, by simp, .inr ⟨w.heap.size, grownCap w n 0 e, _, rfl, Nat.le_refl _, heap_alloc_new w.drew _, by simp, hle, ?_, by simp⟩⟩, gr_alloc (gr_drew (World.grownBy.refl _ _)) _, hge, by unfold maxLen at hle; omega⟩
  simp only [Array.size_append, List.size_toArray, List.length_nil, size_zeroCells, hzs, Nat.zero_add, ← Nat.add_mul]
  congr 1
  omega

/-- the slices of a row, each with an address -/
def Heads {α : Type} [Enc α] (w : World) (rs : List RawS) (ls : List (List α)) : Prop := All2 (fun r l => r.n = l.length ∧ (∃ ad, r.A = some ad) ∧ Sl w 0 r.A l) rs ls
theorem Heads.pure {α : Type} [Enc α] {w w' : World} {rs : List RawS} {ls : List (List α)} (h : Heads w rs ls) (hg : w.grownBy w' none) : Heads w' rs ls := All2.imp h fun _ _ ⟨h1, h2, h3⟩ => ⟨h1, h2, h3.pure hg⟩
/-- the first k, one behind the other -/
def flatK {α : Type} (ls : List (List α)) (k : Nat) : List α := (ls.take k).flatten
theorem flatK_snoc {α : Type} {ls : List (List α)} {k : Nat} (h : k < ls.length) : flatK ls (k + 1) = flatK ls k ++ ls[k] := by
  unfold flatK; rw [List.take_succ_eq_append_getElem h, List.flatten_append]; simp
theorem flatK_all {α : Type} {ls : List (List α)} {k : Nat} (h : ls.length ≤ k) : flatK ls k = ls.flatten := by unfold flatK; rw [List.take_of_length_le h]
theorem flatK_le {α : Type} (ls : List (List α)) (k : Nat) : (flatK ls k).length ≤ (flatK ls ls.length).length := by
  rw [flatK_all (Nat.le_refl _)]
  have : ls.flatten = (ls.take k).flatten ++ (ls.drop k).flatten := by rw [← List.flatten_append, List.take_append_drop]
  rw [this, List.length_append]; unfold flatK; omega
theorem flatK_zero {α : Type} (ls : List (List α)) : flatK ls 0 = [] := rfl
/-- the outer k of both ends exchanged -/
def revK {α : Type} [Inhabited α] (l : List α) (k : Nat) : List α := (List.range l.length).map fun j => if j < k ∨ l.length - k ≤ j then l.getD (l.length - 1 - j) default else l.getD j default
section
variable {α : Type} [Inhabited α]
theorem revK_len (l : List α) (k : Nat) : (revK l k).length = l.length := by simp [revK]
theorem revK_get {l : List α} {k j : Nat} (h : j < (revK l k).length) : (revK l k)[j] = if j < k ∨ l.length - k ≤ j then l.getD (l.length - 1 - j) default else l.getD j default := by simp [revK]
theorem revK_zero (l : List α) : revK l 0 = l := by
  apply List.ext_getElem
  · exact revK_len _ _
  · intro j h1 h2
    rw [revK_get, if_neg (by omega)]; simp [List.getD, h2]
theorem revK_all {l : List α} {k : Nat} (h : l.length ≤ 2 * k + 1) : revK l k = l.reverse := by
  apply List.ext_getElem
  · rw [revK_len]; simp
  · intro j h1 h2
    rw [revK_len] at h1
    rw [revK_get, List.getElem_reverse]
    by_cases hc : j < k ∨ l.length - k ≤ j
    · rw [if_pos hc]; simp [List.getD, show l.length - 1 - j < l.length by omega]
    · rw [if_neg hc]
      have : l.length - 1 - j = j := by omega
      simp [List.getD, h1, this]
theorem revK_lo {l : List α} {k : Nat} (h : 2 * k + 1 < l.length) : (revK l k)[k]'(by rw [revK_len]; omega) = l[k] := by
  rw [revK_get, if_neg (by omega)]; simp [List.getD, show k < l.length by omega]
theorem revK_hi {l : List α} {k : Nat} (h : 2 * k + 1 < l.length) : (revK l k)[l.length - 1 - k]'(by rw [revK_len]; omega) = l[l.length - 1 - k] := by
  rw [revK_get, if_neg (by omega)]; simp [List.getD, show l.length - 1 - k < l.length by omega]
theorem revK_succ {l : List α} {k : Nat} (h : 2 * k + 1 < l.length) : revK l (k + 1) = ((revK l k).set k l[l.length - 1 - k]).set (l.length - 1 - k) l[k] := by
  apply List.ext_getElem
  · simp [revK]
  · intro j h1 h2
    rw [revK_len] at h1
    rw [List.getElem_set, List.getElem_set, revK_get]
    by_cases e1 : l.length - 1 - k = j
    · rw [if_pos e1, if_pos (by omega)]
      have : l.length - 1 - j = k := by omega
      simp [List.getD, this, show k < l.length by omega]
    · rw [if_neg e1]
      by_cases e2 : k = j
      · subst e2
        rw [if_pos rfl, if_pos (by omega)]
        simp [List.getD, show l.length - 1 - k < l.length by omega]
      · rw [if_neg e2, revK_get]
        by_cases hc : j < k ∨ l.length - k ≤ j
        · rw [if_pos hc, if_pos (by omega)]
        · rw [if_neg hc, if_neg (by omega)]
theorem revK_lo' {l : List α} {k m : Nat} (hm : m + k + 1 = l.length) (h : k < m) : (revK l k)[k]'(by rw [revK_len]; omega) = l[k] := revK_lo (by omega)
theorem revK_hi' {l : List α} {k m : Nat} (hm : m + k + 1 = l.length) (h : k < m) : (revK l k)[m]'(by rw [revK_len]; omega) = l[m] := by
  obtain rfl : m = l.length - 1 - k := by omega
  exact revK_hi (by omega)
theorem revK_succ' {l : List α} {k m : Nat} (hm : m + k + 1 = l.length) (h : k < m) : revK l (k + 1) = ((revK l k).set k l[m]).set m l[k] := by
  obtain rfl : m = l.length - 1 - k := by omega
  exact revK_succ (by omega)
end
end Go.Bl

namespace Go.Proofs.Ytjodjdjfagjiaaa
open Go.RowKit Go.Bl

set_option maxHeartbeats 800000 in
set_option maxRecDepth 100000 in
theorem growV3_any (n : Nat) (w : World) (h0 : 0 < n) (hn : n ≤ 1000000) :
    Calls Try.prog 101 #[.slice none 0 0, .int .i64 n] w fun e w' => ∃ G, e = .returned (.slice (some ⟨w.heap.size, 0, none⟩) 0 G) ∧ Own w' w.heap.size 49 (some ⟨w.heap.size, 0, none⟩) G ([] : List V3) ∧ w.grownBy w' none := by
  obtain ⟨i0, hi, hz, h1, h2⟩ := info_parts info_v3
  obtain ⟨G, w2, hrun, hown, hg2, hG, hG2⟩ := run_growNil (P := Try.prog) (α := V3) w 26 3 49 i0 _ .i64 Try.underlying26 Try.underlying3 hi hz h1 rfl n h0 (by rw [h2]; omega) (by omega)
  go_enter Try.func101, Try.ntmps101
  go_wp2_with (at_builtin; refine Lib.wpList_append_run _ rfl _ _ _ _ rfl _ _ rfl rfl _ _ (hrun _) ?_)
  go_ret
  exact ⟨G, rfl, hown, hg2⟩

set_option maxHeartbeats 2000000 in
set_option maxRecDepth 100000 in
theorem concatV3_any (A : Option Addr) (n c : Nat) (rs : List RawS) (ls : List (List V3)) (w : World) (hA : Sl w 0 A rs) (hn : n = rs.length) (hr : Heads w rs ls) (hsum : (flatK ls ls.length).length ≤ 1000000) (h0 : 0 < (flatK ls ls.length).length) :
    Calls Try.prog 78 #[.slice A n c] w fun e w' => ∃ A' c', e = .returned (.slice A' (flatK ls ls.length).length c') ∧ Own w' w.heap.size 49 A' c' (flatK ls ls.length) ∧ w.grownBy w' none := by
  subst hn
  have hm := hA.1
  unfold maxLen at hm
  have hlen := hr.len
  obtain ⟨i0, hi, hz, h1, h2⟩ := info_parts info_v3
  have hle := hide (flatK_le ls)
  replace hlen := hide hlen
  go_enter Try.func78, Try.ntmps78
  go_wp2_with fail
  go_loopw [3, 11] (fun s i wr => ∃ k : Nat, k ≤ rs.length ∧ i = .int .i64 k ∧ s = .int .i64 ((flatK ls k).length : Nat) ∧ w.grownBy wr none) (fun _ i _ => rs.length - (intOf i).toNat)
  case atStart => exact ⟨0, Nat.zero_le _, rfl, rfl, World.grownBy.refl _ _⟩
  case round =>
    obtain ⟨k, hk, rfl, rfl, hg⟩ := hrel
    have hfk := hle.out k
    by_cases hlt : k < rs.length
    · have hlt2 : k < ls.length := by rw [← hlen.out]; exact hlt
      obtain ⟨e1, ⟨ad, e2⟩, hsl⟩ := hr.get k hlt hlt2
      obtain ⟨g, o, cx, rfl, hb0, hb1, rfl, hc⟩ := (hA.pure hg).at_ (by decide) hlt
      have c0 : wr.cell? ⟨g, o + k, none⟩ = some (.slice (some ad) ls[k].length rs[k].c) := by have := hc 0 _ rfl; rw [show Enc.sz RawS = 1 from rfl, Nat.mul_one, e2, e1] at this; exact this
      clear hc e1 e2
      have hfs := congrArg List.length (flatK_snoc hlt2)
      rw [List.length_append] at hfs
      have hfk1 := hle.out (k + 1)
      rw [hfs] at hfk1
      replace hfs := hide hfs
      go_wp2_with fail
      (go_roundw; (case rel => exact ⟨k + 1, by omega, by go_num, by rw [hfs.out]; go_num, (by repeat (first | exact World.grownBy.refl _ _ | assumption | refine gr_alloc ?_ _ | (apply gr_tail; assumption) | refine gr_drewN ?_ _ | refine gr_drew ?_))⟩); (case measure => simp [intOf]; omega))
    · have he : Hid (flatK ls k = flatK ls ls.length) := by rw [Hid, show k = ls.length by have := hlen.out; omega]
      rw [he.out]
      go_wp2_with fail
      refine (growV3_any (flatK ls ls.length).length _ h0 hsum).mono ?_
      rintro e w2 ⟨G, rfl, hown, hg2⟩
      have hgw : w.grownBy w2 none := (by repeat (first | exact World.grownBy.refl _ _ | assumption | refine gr_alloc ?_ _ | (apply gr_tail; assumption) | refine gr_drewN ?_ _ | refine gr_drew ?_))
      have hown := hown.lower hg.size
      clear hg2 hg he hfk
      rename World => wq
      go_wp2_with fail
      go_loopw [6, 27] (fun s i wr => ∃ (k : Nat) (A' : Option Addr) (c' : Nat), k ≤ rs.length ∧ i = .int .i64 k ∧ s = .slice A' (flatK ls k).length c' ∧ Own wr w.heap.size 49 A' c' (flatK ls k) ∧ w.grownBy wr none) (fun _ i _ => rs.length - (intOf i).toNat)
      case atStart => exact ⟨0, _, _, Nat.zero_le _, rfl, rfl, hown, hgw⟩
      case round =>
        obtain ⟨k, A', c', hk, rfl, rfl, hown, hg⟩ := hrel
        by_cases hlt : k < rs.length
        · have hlt2 : k < ls.length := by rw [← hlen.out]; exact hlt
          obtain ⟨e1, ⟨ad, e2⟩, hsl⟩ := hr.get k hlt hlt2
          obtain ⟨g, o, cx, rfl, hb0, hb1, rfl, hc⟩ := (hA.pure hg).at_ (by decide) hlt
          have c0 : wr.cell? ⟨g, o + k, none⟩ = some (.slice (some ad) ls[k].length rs[k].c) := by have := hc 0 _ rfl; rw [show Enc.sz RawS = 1 from rfl, Nat.mul_one, e2, e1] at this; exact this
          rw [e2] at hsl
          clear hc e1 e2
          have hfs := congrArg List.length (flatK_snoc hlt2)
          rw [List.length_append] at hfs
          have hfk1 := hle.out (k + 1)
          rw [hfs] at hfk1
          replace hfs := hide hfs
          have hsn := hide (flatK_snoc hlt2)
          go_wp2_with (at_builtin; refine wpList_push (α := V3) _ rfl (.tmp 31) (.tmp 32) _ rfl w.heap.size 49 i0 _ 24 Try.underlying26 hi hz h1 h2 rfl _ _ _ (flatK ls k) rfl rfl (by exact hown) 0 ad _ _ ls[k] rfl rfl (by exact hsl.pure hg) ?c2 ?c3 ?c4 ?_)
          case c2 => omega
          case c3 => unfold maxLen; omega
          case c4 => exact hg.size
          intro A2 c2 w3 hown3 hup
          rw [← hsn.out] at hown3
          have hl3 : Hid ((flatK ls k).length + ls[k].length = (flatK ls (k + 1)).length) := by rw [Hid, hsn.out, List.length_append]
          go_wp2
          (go_roundw; (case rel => exact ⟨k + 1, A2, c2, by omega, by go_num, by rw [← hl3.out], hown3, hup.gr (Nat.le_refl _) hg⟩); (case measure => simp [intOf]; omega))
        · have he : Hid (flatK ls k = flatK ls ls.length) := by rw [Hid, show k = ls.length by have := hlen.out; omega]
          rw [he.out] at hown
          go_wp2
          go_ret
          exact ⟨A', c', by rw [he.out]; exact rfl, hown, hg⟩

def joinE (m n : MeshV) : Int := if meshF m ≠ 0 then meshF m else if meshF n ≠ 0 then meshF n else meshF (joinM m n)
def joinR (m n : MeshV) : MeshV := if meshF m ≠ 0 ∨ meshF n ≠ 0 then ⟨[], []⟩ else okM (joinM m n)

set_option maxHeartbeats 4000000 in
set_option maxRecDepth 100000 in
theorem joined_ok (A : Option Addr) (c : Nat) (vs : List V3) (B : Option Addr) (d : Nat) (fs : List Fc) (A2 : Option Addr) (c2 : Nat) (vs2 : List V3) (B2 : Option Addr) (d2 : Nat) (fs2 : List Fc) (w : World) (h1 : Sl w 0 A vs) (h2 : Sl w 0 B fs) (h3 : Sl w 0 A2 vs2) (h4 : Sl w 0 B2 fs2) (hM1 : meshF ⟨vs, fs⟩ = 0) (hM2 : meshF ⟨vs2, fs2⟩ = 0) :
    Calls Try.prog 29 #[.agg #[.slice A vs.length c, .slice B fs.length d], .agg #[.slice A2 vs2.length c2, .slice B2 fs2.length d2]] w (SMeshE w.heap.size (okM (joinM ⟨vs, fs⟩ ⟨vs2, fs2⟩)) (meshF (joinM ⟨vs, fs⟩ ⟨vs2, fs2⟩)) w) := by
  obtain ⟨-, hvl, hfl, -, hv1⟩ := right_bd hM1
  obtain ⟨-, hvl2, hfl2, -, hv2⟩ := right_bd hM2
  have hin2 := right_in hM2
  replace hv1 := List.length_pos_iff.2 hv1
  replace hv2 := List.length_pos_iff.2 hv2
  have hC1 := fun wx (hx : w.grownBy wx none) => checkMesh_any A c vs B d fs wx ((h1.mono (Nat.zero_le _)).pure hx) ((h2.mono (Nat.zero_le _)).pure hx)
  have hC2 := fun wx (hx : w.grownBy wx none) => checkMesh_any A2 c2 vs2 B2 d2 fs2 wx ((h3.mono (Nat.zero_le _)).pure hx) ((h4.mono (Nat.zero_le _)).pure hx)
  rw [hM1] at hC1
  rw [hM2] at hC2
  clear hM1 hM2
  replace hC1 := hide hC1
  replace hC2 := hide hC2
  obtain ⟨W, hW⟩ : ∃ W, W = ((w.alloc (.cells #[.slice A vs.length c, .slice B fs.length d] 29)).alloc (.cells #[.slice A2 vs2.length c2, .slice B2 fs2.length d2] 29)).alloc (.cells #[.slice none 0 0, .slice none 0 0] 29) := ⟨_, rfl⟩
  have hWs : w.heap.size + 1 + 1 < W.heap.size := by rw [hW]; simp
  have hgW : w.grownBy W none := by rw [hW]; exact (by repeat (first | exact World.grownBy.refl _ _ | assumption | refine gr_alloc ?_ _ | (apply gr_tail; assumption) | refine gr_drewN ?_ _ | refine gr_drew ?_))
  have b0 : W.cell? ⟨w.heap.size, 0, none⟩ = some (.slice A vs.length c) := by rw [hW]; go_simp
  have b1 : W.cell? ⟨w.heap.size, 1, none⟩ = some (.slice B fs.length d) := by rw [hW]; go_simp
  have b2 : W.cell? ⟨w.heap.size + 1, 0, none⟩ = some (.slice A2 vs2.length c2) := by rw [hW]; go_simp
  have b3 : W.cell? ⟨w.heap.size + 1, 1, none⟩ = some (.slice B2 fs2.length d2) := by rw [hW]; go_simp
  have q0 : Cell W (w.heap.size + 1 + 1) 0 (.slice none 0 0) := by rw [hW]; exact ⟨by go_simp, by go_simp⟩
  have q1 : Cell W (w.heap.size + 1 + 1) 1 (.slice none 0 0) := by rw [hW]; exact ⟨by go_simp, by go_simp⟩
  replace hW := hide hW.symm
  replace hWs := hide hWs
  replace q0 := hide q0
  replace q1 := hide q1
  replace hin2 := hide hin2
  go_enter Try.func29, Try.ntmps29
  go_upto_region 1 with fail
  rw [hW.out]
  go_wp2_with fail
  obtain ⟨W', hW'⟩ : ∃ x, x = W.alloc (.cells #[.slice A vs.length c, .slice B fs.length d, .slice A2 vs2.length c2, .slice B2 fs2.length d2] 29) := ⟨_, rfl⟩
  have hgW' : W.grownBy W' none := by rw [hW']; exact gr_alloc (World.grownBy.refl _ _) _
  have u0 : W'.cell? ⟨W.heap.size, 0, none⟩ = some (.slice A vs.length c) := by rw [hW']; go_simp
  have u1 : W'.cell? ⟨W.heap.size, 1, none⟩ = some (.slice B fs.length d) := by rw [hW']; go_simp
  have u2 : W'.cell? ⟨W.heap.size, 2, none⟩ = some (.slice A2 vs2.length c2) := by rw [hW']; go_simp
  have u3 : W'.cell? ⟨W.heap.size, 3, none⟩ = some (.slice B2 fs2.length d2) := by rw [hW']; go_simp
  rw [← hW']
  clear hW'
  refine wp_loop_rounds 3 ?_
  rw [rounds_succ]
  go_wp2_with fail
  refine (hC1.out _ (gr_alloc (gr_trans hgW hgW') _)).mono ?_
  rintro e wa ⟨rfl, hga⟩
  have hga := gr_trans (gr_alloc (World.grownBy.refl W' none) _) hga
  replace u2 := hga.k u2
  replace u3 := hga.k u3
  go_wp2_with fail
  rw [rounds_succ]
  go_wp2_with fail
  refine (hC2.out _ (gr_alloc (gr_trans (gr_trans hgW hgW') hga) _)).mono ?_
  rintro e wb ⟨rfl, hgb⟩
  have hgb := gr_trans (gr_alloc (World.grownBy.refl wa none) _) hgb
  have hgWb := gr_trans (gr_trans hgW' hga) hgb
  clear hga hgb u0 u1 u2 u3
  replace b0 := hgWb.k b0
  replace b1 := hgWb.k b1
  replace b2 := hgWb.k b2
  replace b3 := hgWb.k b3
  go_wp2_with fail
  rw [rounds_succ]
  go_upto_region 8 with fail
  have hgWw := gr_trans hgW hgWb
  replace q0 := hide (q0.out.gr hgWb (by simp))
  replace q1 := hide (q1.out.gr hgWb (by simp))
  replace hWs : Hid (w.heap.size + 1 + 1 < wb.heap.size) := Nat.lt_of_lt_of_le hWs.out hgWb.size
  replace hgW := hgWw
  clear hgWw hC1 hC2
  have hB : ∀ wx, wb.grownBy wx none → wx.cell? ⟨w.heap.size, 0, none⟩ = some (.slice A vs.length c) ∧ wx.cell? ⟨w.heap.size, 1, none⟩ = some (.slice B fs.length d) ∧ wx.cell? ⟨w.heap.size + 1, 0, none⟩ = some (.slice A2 vs2.length c2) ∧ wx.cell? ⟨w.heap.size + 1, 1, none⟩ = some (.slice B2 fs2.length d2) := fun wx hx => ⟨hx.k b0, hx.k b1, hx.k b2, hx.k b3⟩
  replace hB := hide hB
  obtain ⟨g1, o1, rfl, -, -, -⟩ := h1.v3 hv1
  obtain ⟨g2, o2, rfl, -, -, -⟩ := h3.v3 hv2
  have hfk : flatK [vs, vs2] [vs, vs2].length = vs ++ vs2 := by simp [flatK]
  have hfl : (vs ++ vs2).length = vs.length + vs2.length := List.length_append
  go_cut [9] from 28 to 37 (fun s9 wx => JnR wb vs vs2 fs s9 wx)
  case first =>
    refine wp_region_tree (fun wx => wb.grownBy wx none) [2, 1, 2, 1, 0, 0, 2, 1, 0, 2, 0, 0] (.bl 0 (.bl 1 (.bl 2 (.bl 3 (.bl 6 (.bl 7 (.alt (.ef 4 (.alt (.ef 5 (.alt (.ef 8 (.bl 9 (.ef 10 (.ef 11 .done)))) (.ef 10 (.ef 8 (.bl 9 (.ef 11 .done)))))) (.ef 10 (.ef 5 (.ef 8 (.bl 9 (.ef 11 .done))))))) (.ef 10 (.ef 4 (.ef 5 (.ef 8 (.bl 9 (.ef 11 .done))))))))))))) (by kernel_rfl) (by kernel_rfl) (gr_drew (World.grownBy.refl _ _)) ?_
    obtain ⟨w1, hw1⟩ : ∃ x, x = (wb).drew := ⟨_, rfl⟩
    rw [← hw1]
    have hgw1 : (wb).grownBy w1 none := by rw [hw1]; exact gr_drew (World.grownBy.refl _ _)
    clear hw1
    refine tree_p rfl rfl rfl rfl _ rfl (by simp) (fun K hK => ?_)
    apply Exists.intro
    refine ⟨fun wq K' hK' => ?_, ?_⟩
    · go_wp2_with fail
      exact hK'
    go_simp
    refine hK _ ?_
    clear hK K
    refine tree_b rfl rfl rfl rfl _ rfl (by simp) (fun K hK => ?_)
    apply Exists.intro
    refine ⟨fun wq hq K' hK' => ?_, ?_⟩
    · obtain ⟨c0, c1, c2, c3⟩ := hB.out wq hq
      go_wp2_with fail
      exact hK'
    go_simp
    refine hK _ ?_
    clear hK K
    refine tree_p rfl rfl rfl rfl _ rfl (by simp) (fun K hK => ?_)
    apply Exists.intro
    refine ⟨fun wq K' hK' => ?_, ?_⟩
    · go_wp2_with fail
      exact hK'
    go_simp
    refine hK _ ?_
    clear hK K
    refine tree_b rfl rfl rfl rfl _ rfl (by simp) (fun K hK => ?_)
    apply Exists.intro
    refine ⟨fun wq hq K' hK' => ?_, ?_⟩
    · obtain ⟨c0, c1, c2, c3⟩ := hB.out wq hq
      go_wp2_with fail
      exact hK'
    go_simp
    refine hK _ ?_
    clear hK K
    refine tree_p rfl rfl rfl rfl _ rfl (by simp) (fun K hK => ?_)
    apply Exists.intro
    refine ⟨fun wq K' hK' => ?_, ?_⟩
    · go_wp2_with fail
      exact hK'
    go_simp
    refine hK _ ?_
    clear hK K
    refine tree_b rfl rfl rfl rfl _ rfl (by simp) (fun K hK => ?_)
    apply Exists.intro
    refine ⟨fun wq hq K' hK' => ?_, ?_⟩
    · obtain ⟨c0, c1, c2, c3⟩ := hB.out wq hq
      go_wp2_with fail
      exact hK'
    go_simp
    refine hK _ ?_
    clear hK K
    refine tree_alt ?_ ?_
    · refine tree_e rfl rfl (fun K hK => ?_)
      go_wp2_with fail
      try go_simp
      refine hK _ _ (gr_alloc (gr_trans hgw1 (World.grownBy.refl _ _)) _) ?_
      clear hK K
      obtain ⟨w4, hw4⟩ : ∃ x, x = (w1).alloc (.cells [.slice (some ⟨g1, o1, none⟩) vs.length c, .slice (some ⟨g2, o2, none⟩) vs2.length c2].toArray 26) := ⟨_, rfl⟩
      have hg4 : (w1).grownBy w4 none := by rw [hw4]; exact gr_alloc (World.grownBy.refl _ _) _
      have hb4 : Box w4 (w1).heap.size 26 [.slice (some ⟨g1, o1, none⟩) vs.length c, .slice (some ⟨g2, o2, none⟩) vs2.length c2] := by rw [hw4]; exact Box.new _ _ _
      rw [← hw4]
      clear hw4
      have hw4 : w.grownBy w4 none := gr_trans hgW (gr_trans hgw1 hg4)
      have hsl4 := hb4.sl (l := [(⟨some ⟨g1, o1, none⟩, vs.length, c⟩ : RawS), ⟨some ⟨g2, o2, none⟩, vs2.length, c2⟩]) ⟨_, _, rfl, rfl, _, [], rfl, rfl, rfl⟩ (Nat.zero_le _) (by simp [maxLen])
      have hhd4 : Heads w4 [(⟨some ⟨g1, o1, none⟩, vs.length, c⟩ : RawS), ⟨some ⟨g2, o2, none⟩, vs2.length, c2⟩] [vs, vs2] := .cons ⟨rfl, ⟨_, rfl⟩, h1.pure hw4⟩ (.cons ⟨rfl, ⟨_, rfl⟩, h3.pure hw4⟩ .nil)
      refine tree_alt ?_ ?_
      · refine tree_e rfl rfl (fun K hK => ?_)
        have hc5 := concatV3_any _ 2 2 _ [vs, vs2] w4 (hsl4.pure (World.grownBy.refl _ _)) rfl (hhd4.pure (World.grownBy.refl _ _)) (by rw [hfk, hfl]; omega) (by rw [hfk, hfl]; omega)
        rw [hfk, hfl] at hc5
        replace hc5 := hide hc5
        go_wp2_with fail
        refine hc5.out.mono ?_
        rintro e w5 ⟨A5, c5, rfl, ho5, hg5⟩
        have ho5 := ho5.lower (show wb.heap.size ≤ (w4).heap.size from (gr_trans hgw1 hg4).size)
        have hW5 : wb.grownBy w5 none := gr_trans (gr_trans hgw1 hg4) hg5
        go_wp2_with fail
        try go_simp
        refine hK _ _ (hW5) ?_
        clear hK K
        refine tree_alt ?_ ?_
        · refine tree_e0 (by kernel_rfl) rfl rfl (fun K hK => ?_)
          go_wp2_with fail
          refine (cloneFc_any B d fs w5 (h2.pure (gr_trans hgW (gr_trans hgw1 (gr_trans hg4 hg5)))) (by omega)).mono ?_
          rintro e w8 ⟨B8, d8, rfl, ho8, hg8⟩
          have ho8 := ho8.lower (show wb.heap.size ≤ (w5).heap.size from (gr_trans hgw1 (gr_trans hg4 hg5)).size)
          go_wp2_with fail
          try go_simp
          refine hK _ _ trivial ?_
          clear hK K
          refine tree_p rfl rfl rfl rfl _ rfl (by simp) (fun K hK => ?_)
          apply Exists.intro
          refine ⟨fun wq K' hK' => ?_, ?_⟩
          · go_wp2_with fail
            exact hK'
          go_simp
          refine hK _ ?_
          clear hK K
          refine tree_e rfl rfl (fun K hK => ?_)
          go_wp2_with fail
          try go_simp
          refine hK _ _ (gr_alloc (gr_trans hgw1 (gr_trans (gr_trans hg4 hg5) hg8)) _) ?_
          clear hK K
          obtain ⟨w10, hw10⟩ : ∃ x, x = (w8).alloc (.cells [.slice none 0 0, .slice none 0 0].toArray 29) := ⟨_, rfl⟩
          have hg10 : (w8).grownBy w10 none := by rw [hw10]; exact gr_alloc (World.grownBy.refl _ _) _
          have hb10 : Box w10 (w8).heap.size 29 [.slice none 0 0, .slice none 0 0] := by rw [hw10]; exact Box.new _ _ _
          rw [← hw10]
          clear hw10
          have hl10 : wb.heap.size ≤ (w8).heap.size := (gr_trans hgw1 (gr_trans (gr_trans hg4 hg5) hg8)).size
          refine tree_e0 (by kernel_rfl) rfl rfl (fun K hK => ?_)
          have hb11 := hb10.pure (w' := w10) (World.grownBy.refl _ _)
          obtain ⟨x0, y0⟩ := hb11.c 0 rfl
          obtain ⟨x1, y1⟩ := hb11.c 1 rfl
          have hF := JnR.fin (la := vs) (lb := vs2) (lf := fs) hl10 hb11 (ho5.pure (w' := w10) (gr_trans hg8 hg10)) (ho8.pure (w' := w10) hg10) (gr_trans hgw1 (gr_trans (gr_trans (gr_trans hg4 hg5) hg8) hg10))
          replace hF := hide hF
          go_wp2_with fail
          try go_simp
          refine hK _ _ trivial ?_
          clear hK K
          refine tree_done ?_
          go_wp2_with fail
          go_meet
          exact hF.out
        · refine tree_e rfl rfl (fun K hK => ?_)
          go_wp2_with fail
          try go_simp
          refine hK _ _ (gr_alloc (gr_trans hgw1 (gr_trans hg4 hg5)) _) ?_
          clear hK K
          obtain ⟨w10, hw10⟩ : ∃ x, x = (w5).alloc (.cells [.slice none 0 0, .slice none 0 0].toArray 29) := ⟨_, rfl⟩
          have hg10 : (w5).grownBy w10 none := by rw [hw10]; exact gr_alloc (World.grownBy.refl _ _) _
          have hb10 : Box w10 (w5).heap.size 29 [.slice none 0 0, .slice none 0 0] := by rw [hw10]; exact Box.new _ _ _
          rw [← hw10]
          clear hw10
          have hl10 : wb.heap.size ≤ (w5).heap.size := (gr_trans hgw1 (gr_trans hg4 hg5)).size
          refine tree_e0 (by kernel_rfl) rfl rfl (fun K hK => ?_)
          go_wp2_with fail
          refine (cloneFc_any B d fs w10 (h2.pure (gr_trans hgW (gr_trans hgw1 (gr_trans (gr_trans hg4 hg5) hg10)))) (by omega)).mono ?_
          rintro e w8 ⟨B8, d8, rfl, ho8, hg8⟩
          have ho8 := ho8.lower (show wb.heap.size ≤ (w10).heap.size from (gr_trans hgw1 (gr_trans (gr_trans hg4 hg5) hg10)).size)
          go_wp2_with fail
          try go_simp
          refine hK _ _ trivial ?_
          clear hK K
          refine tree_p rfl rfl rfl rfl _ rfl (by simp) (fun K hK => ?_)
          apply Exists.intro
          refine ⟨fun wq K' hK' => ?_, ?_⟩
          · go_wp2_with fail
            exact hK'
          go_simp
          refine hK _ ?_
          clear hK K
          refine tree_e0 (by kernel_rfl) rfl rfl (fun K hK => ?_)
          have hb11 := hb10.pure (w' := w8) hg8
          obtain ⟨x0, y0⟩ := hb11.c 0 rfl
          obtain ⟨x1, y1⟩ := hb11.c 1 rfl
          have hF := JnR.fin (la := vs) (lb := vs2) (lf := fs) hl10 hb11 (ho5.pure (w' := w8) (gr_trans hg10 hg8)) (ho8.pure (w' := w8) (World.grownBy.refl _ _)) (gr_trans hgw1 (gr_trans (gr_trans (gr_trans hg4 hg5) hg10) hg8))
          replace hF := hide hF
          go_wp2_with fail
          try go_simp
          refine hK _ _ trivial ?_
          clear hK K
          refine tree_done ?_
          go_wp2_with fail
          go_meet
          exact hF.out
      · refine tree_e rfl rfl (fun K hK => ?_)
        go_wp2_with fail
        try go_simp
        refine hK _ _ (gr_alloc (gr_trans hgw1 hg4) _) ?_
        clear hK K
        obtain ⟨w10, hw10⟩ : ∃ x, x = (w4).alloc (.cells [.slice none 0 0, .slice none 0 0].toArray 29) := ⟨_, rfl⟩
        have hg10 : (w4).grownBy w10 none := by rw [hw10]; exact gr_alloc (World.grownBy.refl _ _) _
        have hb10 : Box w10 (w4).heap.size 29 [.slice none 0 0, .slice none 0 0] := by rw [hw10]; exact Box.new _ _ _
        rw [← hw10]
        clear hw10
        have hl10 : wb.heap.size ≤ (w4).heap.size := (gr_trans hgw1 hg4).size
        refine tree_e rfl rfl (fun K hK => ?_)
        have hc5 := concatV3_any _ 2 2 _ [vs, vs2] w10 (hsl4.pure hg10) rfl (hhd4.pure hg10) (by rw [hfk, hfl]; omega) (by rw [hfk, hfl]; omega)
        rw [hfk, hfl] at hc5
        replace hc5 := hide hc5
        go_wp2_with fail
        refine hc5.out.mono ?_
        rintro e w5 ⟨A5, c5, rfl, ho5, hg5⟩
        have ho5 := ho5.lower (show wb.heap.size ≤ (w10).heap.size from (gr_trans hgw1 (gr_trans hg4 hg10)).size)
        have hW5 : wb.grownBy w5 none := gr_trans (gr_trans hgw1 (gr_trans hg4 hg10)) hg5
        go_wp2_with fail
        try go_simp
        refine hK _ _ (hW5) ?_
        clear hK K
        refine tree_e0 (by kernel_rfl) rfl rfl (fun K hK => ?_)
        go_wp2_with fail
        refine (cloneFc_any B d fs w5 (h2.pure (gr_trans hgW (gr_trans hgw1 (gr_trans (gr_trans hg4 hg10) hg5)))) (by omega)).mono ?_
        rintro e w8 ⟨B8, d8, rfl, ho8, hg8⟩
        have ho8 := ho8.lower (show wb.heap.size ≤ (w5).heap.size from (gr_trans hgw1 (gr_trans (gr_trans hg4 hg10) hg5)).size)
        go_wp2_with fail
        try go_simp
        refine hK _ _ trivial ?_
        clear hK K
        refine tree_p rfl rfl rfl rfl _ rfl (by simp) (fun K hK => ?_)
        apply Exists.intro
        refine ⟨fun wq K' hK' => ?_, ?_⟩
        · go_wp2_with fail
          exact hK'
        go_simp
        refine hK _ ?_
        clear hK K
        refine tree_e0 (by kernel_rfl) rfl rfl (fun K hK => ?_)
        have hb11 := hb10.pure (w' := w8) (gr_trans hg5 hg8)
        obtain ⟨x0, y0⟩ := hb11.c 0 rfl
        obtain ⟨x1, y1⟩ := hb11.c 1 rfl
        have hF := JnR.fin (la := vs) (lb := vs2) (lf := fs) hl10 hb11 (ho5.pure (w' := w8) hg8) (ho8.pure (w' := w8) (World.grownBy.refl _ _)) (gr_trans hgw1 (gr_trans (gr_trans (gr_trans hg4 hg10) hg5) hg8))
        replace hF := hide hF
        go_wp2_with fail
        try go_simp
        refine hK _ _ trivial ?_
        clear hK K
        refine tree_done ?_
        go_wp2_with fail
        go_meet
        exact hF.out
    · refine tree_e rfl rfl (fun K hK => ?_)
      go_wp2_with fail
      try go_simp
      refine hK _ _ (gr_alloc (gr_trans hgw1 (World.grownBy.refl _ _)) _) ?_
      clear hK K
      obtain ⟨w10, hw10⟩ : ∃ x, x = (w1).alloc (.cells [.slice none 0 0, .slice none 0 0].toArray 29) := ⟨_, rfl⟩
      have hg10 : (w1).grownBy w10 none := by rw [hw10]; exact gr_alloc (World.grownBy.refl _ _) _
      have hb10 : Box w10 (w1).heap.size 29 [.slice none 0 0, .slice none 0 0] := by rw [hw10]; exact Box.new _ _ _
      rw [← hw10]
      clear hw10
      have hl10 : wb.heap.size ≤ (w1).heap.size := (gr_trans hgw1 (World.grownBy.refl _ _)).size
      refine tree_e rfl rfl (fun K hK => ?_)
      go_wp2_with fail
      try go_simp
      refine hK _ _ (gr_alloc (gr_trans hgw1 hg10) _) ?_
      clear hK K
      obtain ⟨w4, hw4⟩ : ∃ x, x = (w10).alloc (.cells [.slice (some ⟨g1, o1, none⟩) vs.length c, .slice (some ⟨g2, o2, none⟩) vs2.length c2].toArray 26) := ⟨_, rfl⟩
      have hg4 : (w10).grownBy w4 none := by rw [hw4]; exact gr_alloc (World.grownBy.refl _ _) _
      have hb4 : Box w4 (w10).heap.size 26 [.slice (some ⟨g1, o1, none⟩) vs.length c, .slice (some ⟨g2, o2, none⟩) vs2.length c2] := by rw [hw4]; exact Box.new _ _ _
      rw [← hw4]
      clear hw4
      have hw4 : w.grownBy w4 none := gr_trans hgW (gr_trans hgw1 (gr_trans hg10 hg4))
      have hsl4 := hb4.sl (l := [(⟨some ⟨g1, o1, none⟩, vs.length, c⟩ : RawS), ⟨some ⟨g2, o2, none⟩, vs2.length, c2⟩]) ⟨_, _, rfl, rfl, _, [], rfl, rfl, rfl⟩ (Nat.zero_le _) (by simp [maxLen])
      have hhd4 : Heads w4 [(⟨some ⟨g1, o1, none⟩, vs.length, c⟩ : RawS), ⟨some ⟨g2, o2, none⟩, vs2.length, c2⟩] [vs, vs2] := .cons ⟨rfl, ⟨_, rfl⟩, h1.pure hw4⟩ (.cons ⟨rfl, ⟨_, rfl⟩, h3.pure hw4⟩ .nil)
      refine tree_e rfl rfl (fun K hK => ?_)
      have hc5 := concatV3_any _ 2 2 _ [vs, vs2] w4 (hsl4.pure (World.grownBy.refl _ _)) rfl (hhd4.pure (World.grownBy.refl _ _)) (by rw [hfk, hfl]; omega) (by rw [hfk, hfl]; omega)
      rw [hfk, hfl] at hc5
      replace hc5 := hide hc5
      go_wp2_with fail
      refine hc5.out.mono ?_
      rintro e w5 ⟨A5, c5, rfl, ho5, hg5⟩
      have ho5 := ho5.lower (show wb.heap.size ≤ (w4).heap.size from (gr_trans hgw1 (gr_trans hg10 hg4)).size)
      have hW5 : wb.grownBy w5 none := gr_trans (gr_trans hgw1 (gr_trans hg10 hg4)) hg5
      go_wp2_with fail
      try go_simp
      refine hK _ _ (hW5) ?_
      clear hK K
      refine tree_e0 (by kernel_rfl) rfl rfl (fun K hK => ?_)
      go_wp2_with fail
      refine (cloneFc_any B d fs w5 (h2.pure (gr_trans hgW (gr_trans hgw1 (gr_trans (gr_trans hg10 hg4) hg5)))) (by omega)).mono ?_
      rintro e w8 ⟨B8, d8, rfl, ho8, hg8⟩
      have ho8 := ho8.lower (show wb.heap.size ≤ (w5).heap.size from (gr_trans hgw1 (gr_trans (gr_trans hg10 hg4) hg5)).size)
      go_wp2_with fail
      try go_simp
      refine hK _ _ trivial ?_
      clear hK K
      refine tree_p rfl rfl rfl rfl _ rfl (by simp) (fun K hK => ?_)
      apply Exists.intro
      refine ⟨fun wq K' hK' => ?_, ?_⟩
      · go_wp2_with fail
        exact hK'
      go_simp
      refine hK _ ?_
      clear hK K
      refine tree_e0 (by kernel_rfl) rfl rfl (fun K hK => ?_)
      have hb11 := hb10.pure (w' := w8) (gr_trans (gr_trans hg4 hg5) hg8)
      obtain ⟨x0, y0⟩ := hb11.c 0 rfl
      obtain ⟨x1, y1⟩ := hb11.c 1 rfl
      have hF := JnR.fin (la := vs) (lb := vs2) (lf := fs) hl10 hb11 (ho5.pure (w' := w8) hg8) (ho8.pure (w' := w8) (World.grownBy.refl _ _)) (gr_trans hgw1 (gr_trans (gr_trans (gr_trans hg10 hg4) hg5) hg8))
      replace hF := hide hF
      go_wp2_with fail
      try go_simp
      refine hK _ _ trivial ?_
      clear hK K
      refine tree_done ?_
      go_wp2_with fail
      go_meet
      exact hF.out
  case rest =>
    obtain ⟨g, A5, c5, B8, d8, rfl, hgl, hb, ho5, ho8, hgw⟩ := hcut
    rename World => wc
    have hwW := gr_trans hgW hgw
    have c0 := hgw.k b0
    have c3 := hgw.k b3
    go_upto_if 45 with fail
    go_loopw [44] (fun i wr => ∃ (k : Nat) (B' : Option Addr) (d' : Nat), k ≤ fs2.length ∧ i = .int .i64 k ∧ Box wr g 29 [.slice A5 (vs.length + vs2.length) c5, .slice B' (fs.length + k) d'] ∧ Own wr wb.heap.size 49 A5 c5 (vs ++ vs2) ∧ Own wr wb.heap.size 67 B' d' (jnK vs.length fs fs2 k) ∧ wb.grownBy wr none) (fun i _ => fs2.length - (intOf i).toNat)
    case atStart => exact ⟨0, B8, d8, by omega, rfl, hb, ho5, by rw [jnK_zero]; exact ho8, hgw⟩
    case round =>
      obtain ⟨k, B', d', hk, rfl, hb, ho5, ho8, hg⟩ := hrel
      have hgt := hb.lt
      obtain ⟨y0, z0⟩ := hb.c 0 rfl
      obtain ⟨y1, z1⟩ := hb.c 1 rfl
      have hlen : Hid ((jnK vs.length fs fs2 k).length = fs.length + k) := jnK_len hk
      by_cases hlt : k < fs2.length
      · obtain ⟨gf, of, rfl, -, hbg, hcc⟩ := (h4.pure (gr_trans hgW hg)).fc (by omega)
        obtain ⟨x0, x1, x2⟩ := hcc k hlt
        clear hcc
        have hmem := List.getElem_mem hlt
        obtain ⟨⟨p1, p2⟩, ⟨p3, p4⟩, p5, p6⟩ := inF_bd (hin2.out _ hmem)
        have hsn : Hid (jnK vs.length fs fs2 (k + 1) = jnK vs.length fs fs2 k ++ [shF vs.length fs2[k]]) := jnK_snoc hlt
        generalize fs2[k] = f at *
        obtain ⟨fa, fb, fc⟩ := f
        simp only at x0 x1 x2 p1 p2 p3 p4 p5 p6
        replace ho8 := hide ho8
        replace ho5 := hide ho5
        have hq := gr_alloc (gr_alloc (World.grownBy.refl wr none) (.cells #[.int .i64 fa, .int .i64 fb, .int .i64 fc] 67)) (.cells #[.int .i64 (fa + vs.length), .int .i64 (fb + vs.length), .int .i64 (fc + vs.length)] 67)
        go_wp2_with (at_builtin; obtain ⟨i0, hi, hz, h1, h2⟩ := info_parts info_face; refine wpList_pushAt (α := Fc) _ rfl (.tmp 49) (.tmp 63) _ rfl wb.heap.size 67 i0 _ 24 Try.underlying27 hi hz h1 h2 rfl _ _ _ (jnK vs.length fs fs2 k) rfl ?c1 (by exact (ho8.out.pure hq)) 0 ⟨_, 0, none⟩ 1 1 [⟨_, _, _⟩] rfl rfl (by exact (sl_oneAt _ 0 _ _ _ _ (by first | rfl | simp) (Nat.zero_le _) rfl)) ?c2 ?c3 ?c4 ?_)
        case c1 => exact hlen.out.symm
        case c2 => rw [hlen.out]; simp; omega
        case c3 => rw [hlen.out]; simp [maxLen]; omega
        case c4 => have := hg.size; have := hq.size; omega
        intro B5 d5 w5 ho8' hG5
        have hbq := hb.pure hq
        have hoq := ho8.out.pure hq
        have hb5 := hbq.gr hG5.1 (hbq.ne_own hoq (by decide))
        have hg5 : wb.grownBy w5 none := gr_row (gr_trans hg hq) hG5.1 (fun x e => (hoq.blk_lt e).1)
        have ho5q := ho5.out.pure hq
        have ho55 := ho5q.ne hG5.1 (fun x hx => ho5q.ne_own hoq (by decide) hx)
        obtain ⟨y0, z0⟩ := hb5.c 0 rfl
        obtain ⟨y1, z1⟩ := hb5.c 1 rfl
        have hb6 := hide (hb5.set_ 1 (.slice B5 (fs.length + k + 1) d5) (by simp))
        have ho56 := hide (ho55.set_other (i := 1) (.slice B5 (fs.length + k + 1) d5) (hb5.ne_own ho55 (by decide)))
        rw [show ([⟨fa + vs.length, fb + vs.length, fc + vs.length⟩] : List Fc) = [shF vs.length ⟨fa, fb, fc⟩] from rfl, ← hsn.out] at ho8'
        have ho86 := hide (ho8'.set_other (i := 1) (.slice B5 (fs.length + k + 1) d5) (hb5.ne_own ho8' (by decide)))
        have hg6 := hide (gr_set hg5 (p := ⟨g, 1, none⟩) (.inr hgl) (.slice B5 (fs.length + k + 1) d5))
        rw [hlen.out]
        clear hb5 hbq hoq ho5q ho55 ho8' hG5 hq hb
        go_wp2_with fail
        (go_roundw; (case rel => exact ⟨k + 1, B5, d5, by omega, by go_num, hb6.out, ho56.out, ho86.out, hg6.out⟩); (case measure => simp [intOf]; omega))
      · have hkn : k = fs2.length := by omega
        subst hkn
        rw [jnK_all vs vs2 fs fs2] at ho8 hlen
        have hR := checked_any A5 c5 (vs ++ vs2) B' d' (joinM ⟨vs, fs⟩ ⟨vs2, fs2⟩).fs wr wb.heap.size ho5.sl ho8.sl
        rw [hlen.out, List.length_append] at hR
        replace hR := hide hR
        obtain ⟨m0, f0⟩ := q0.out.gr hg (by simp)
        obtain ⟨m1, f1⟩ := q1.out.gr hg (by simp)
        have hwr := gr_trans hgW hg
        clear ho8 ho5 hlen
        go_wp2_with fail
        refine hR.out.mono ?_
        rintro e w1 ⟨A9, c9, B9, d9, rfl, hs9, hf9, hg9⟩
        have hle := hWs.out
        obtain ⟨m0, f0⟩ := Cell.gr ⟨m0, f0⟩ hg9 (by simp)
        obtain ⟨m1, f1⟩ := Cell.gr ⟨m1, f1⟩ hg9 (by simp)
        have hgs := fun (v1 v2 : Value) => gr_set (gr_set (World.grownBy.refl w1 (some (w.heap.size + 1 + 1))) (p := ⟨w.heap.size + 1 + 1, 0, none⟩) (.inl rfl) v1) (p := ⟨w.heap.size + 1 + 1, 1, none⟩) (.inl rfl) v2
        have hk := fun v1 v2 => gr_row (gr_trans hwr hg9) (hgs v1 v2) (fun g e => by injection e; omega)
        replace hgs := hide hgs
        replace hk := hide hk
        rw [show (⟨vs ++ vs2, (joinM ⟨vs, fs⟩ ⟨vs2, fs2⟩).fs⟩ : MeshV) = joinM ⟨vs, fs⟩ ⟨vs2, fs2⟩ from rfl] at hs9 hf9 ⊢
        generalize joinM ⟨vs, fs⟩ ⟨vs2, fs2⟩ = J at *
        generalize meshF J = F at *
        generalize okM J = R at *
        go_wp2_with fail
        exact bodyPost_ret (v := .tuple #[.agg #[.slice A9 R.vs.length c9, .slice B9 R.fs.length d9], .int .i64 F]) (by simp [results, Try.results29, go_sem, m0, m1, f0, f1]) rfl ⟨A9, c9, B9, d9, rfl, (hs9.gr (hgs.out _ _) (fun g e => by injection e; omega)).mono (by omega), (hf9.gr (hgs.out _ _) (fun g e => by injection e; omega)).mono (by omega), hk.out _ _⟩

set_option maxHeartbeats 1000000 in
set_option maxRecDepth 100000 in
theorem joined_bad1 (A : Option Addr) (c : Nat) (vs : List V3) (B : Option Addr) (d : Nat) (fs : List Fc) (A2 : Option Addr) (c2 : Nat) (vs2 : List V3) (B2 : Option Addr) (d2 : Nat) (fs2 : List Fc) (w : World) (h1 : Sl w 0 A vs) (h2 : Sl w 0 B fs) (hM1 : meshF ⟨vs, fs⟩ ≠ 0) :
    Calls Try.prog 29 #[.agg #[.slice A vs.length c, .slice B fs.length d], .agg #[.slice A2 vs2.length c2, .slice B2 fs2.length d2]] w (SMeshE w.heap.size ⟨[], []⟩ (meshF ⟨vs, fs⟩) w) := by
  have hC1 := fun wx (hx : w.grownBy wx none) => checkMesh_any A c vs B d fs wx ((h1.mono (Nat.zero_le _)).pure hx) ((h2.mono (Nat.zero_le _)).pure hx)
  generalize meshF ⟨vs, fs⟩ = F at *
  have hb : (F != 0) = true := by simpa using hM1
  clear hM1
  replace hC1 := hide hC1
  have hlt0 : w.heap.size < w.heap.size + 1 + 1 := by omega
  obtain ⟨W, hW⟩ : ∃ W, W = ((w.alloc (.cells #[.slice A vs.length c, .slice B fs.length d] 29)).alloc (.cells #[.slice A2 vs2.length c2, .slice B2 fs2.length d2] 29)).alloc (.cells #[.slice none 0 0, .slice none 0 0] 29) := ⟨_, rfl⟩
  have hWs : w.heap.size + 1 + 1 < W.heap.size := by rw [hW]; simp
  have hgW : w.grownBy W none := by rw [hW]; exact (by repeat (first | exact World.grownBy.refl _ _ | assumption | refine gr_alloc ?_ _ | (apply gr_tail; assumption) | refine gr_drewN ?_ _ | refine gr_drew ?_))
  have b0 : W.cell? ⟨w.heap.size, 0, none⟩ = some (.slice A vs.length c) := by rw [hW]; go_simp
  have b1 : W.cell? ⟨w.heap.size, 1, none⟩ = some (.slice B fs.length d) := by rw [hW]; go_simp
  have b2 : W.cell? ⟨w.heap.size + 1, 0, none⟩ = some (.slice A2 vs2.length c2) := by rw [hW]; go_simp
  have b3 : W.cell? ⟨w.heap.size + 1, 1, none⟩ = some (.slice B2 fs2.length d2) := by rw [hW]; go_simp
  have q0 : Cell W (w.heap.size + 1 + 1) 0 (.slice none 0 0) := by rw [hW]; exact ⟨by go_simp, by go_simp⟩
  have q1 : Cell W (w.heap.size + 1 + 1) 1 (.slice none 0 0) := by rw [hW]; exact ⟨by go_simp, by go_simp⟩
  replace hW := hide hW.symm
  replace hWs := hide hWs
  replace q0 := hide q0
  replace q1 := hide q1
  go_enter Try.func29, Try.ntmps29
  go_upto_region 1 with fail
  rw [hW.out]
  go_wp2_with fail
  obtain ⟨W', hW'⟩ : ∃ x, x = W.alloc (.cells #[.slice A vs.length c, .slice B fs.length d, .slice A2 vs2.length c2, .slice B2 fs2.length d2] 29) := ⟨_, rfl⟩
  have hgW' : W.grownBy W' none := by rw [hW']; exact gr_alloc (World.grownBy.refl _ _) _
  have u0 : W'.cell? ⟨W.heap.size, 0, none⟩ = some (.slice A vs.length c) := by rw [hW']; go_simp
  have u1 : W'.cell? ⟨W.heap.size, 1, none⟩ = some (.slice B fs.length d) := by rw [hW']; go_simp
  have u2 : W'.cell? ⟨W.heap.size, 2, none⟩ = some (.slice A2 vs2.length c2) := by rw [hW']; go_simp
  have u3 : W'.cell? ⟨W.heap.size, 3, none⟩ = some (.slice B2 fs2.length d2) := by rw [hW']; go_simp
  rw [← hW']
  clear hW'
  refine wp_loop_rounds 3 ?_
  rw [rounds_succ]
  go_wp2_with fail
  refine (hC1.out _ (gr_alloc (gr_trans hgW hgW') _)).mono ?_
  rintro e wa ⟨rfl, hga⟩
  have hga := gr_trans (gr_alloc (World.grownBy.refl W' none) _) hga
  obtain ⟨x0, y0⟩ := q0.out.gr (gr_trans hgW' hga) (by simp)
  obtain ⟨x1, y1⟩ := q1.out.gr (gr_trans hgW' hga) (by simp)
  have hgX := gr_trans hgW (gr_trans hgW' hga)
  have hgs := fun (v1 v2 : Value) => gr_set (gr_set (World.grownBy.refl wa (some (w.heap.size + 1 + 1))) (p := ⟨w.heap.size + 1 + 1, 0, none⟩) (.inl rfl) v1) (p := ⟨w.heap.size + 1 + 1, 1, none⟩) (.inl rfl) v2
  have hk := fun v1 v2 => gr_row hgX (hgs v1 v2) (fun g e => by injection e; omega)
  clear u0 u1 u2 u3 hC1 q0 q1
  replace hgs := hide hgs
  replace hk := hide hk
  go_wp2_with fail
  exact bodyPost_ret (v := .tuple #[.agg #[.slice none 0 0, .slice none 0 0], .int .i64 F]) (by simp [results, Try.results29, go_sem, x0, x1, y0, y1]) rfl ⟨none, 0, none, 0, rfl, slNil _ _ _, slNil _ _ _, hk.out _ _⟩

set_option maxHeartbeats 1000000 in
set_option maxRecDepth 100000 in
theorem joined_bad2 (A : Option Addr) (c : Nat) (vs : List V3) (B : Option Addr) (d : Nat) (fs : List Fc) (A2 : Option Addr) (c2 : Nat) (vs2 : List V3) (B2 : Option Addr) (d2 : Nat) (fs2 : List Fc) (w : World) (h1 : Sl w 0 A vs) (h2 : Sl w 0 B fs) (h3 : Sl w 0 A2 vs2) (h4 : Sl w 0 B2 fs2) (hM1 : meshF ⟨vs, fs⟩ = 0) (hM2 : meshF ⟨vs2, fs2⟩ ≠ 0) :
    Calls Try.prog 29 #[.agg #[.slice A vs.length c, .slice B fs.length d], .agg #[.slice A2 vs2.length c2, .slice B2 fs2.length d2]] w (SMeshE w.heap.size ⟨[], []⟩ (meshF ⟨vs2, fs2⟩) w) := by
  have hC1 := fun wx (hx : w.grownBy wx none) => checkMesh_any A c vs B d fs wx ((h1.mono (Nat.zero_le _)).pure hx) ((h2.mono (Nat.zero_le _)).pure hx)
  have hC2 := fun wx (hx : w.grownBy wx none) => checkMesh_any A2 c2 vs2 B2 d2 fs2 wx ((h3.mono (Nat.zero_le _)).pure hx) ((h4.mono (Nat.zero_le _)).pure hx)
  rw [hM1] at hC1
  generalize meshF ⟨vs2, fs2⟩ = F at *
  have hb : (F != 0) = true := by simpa using hM2
  clear hM1 hM2
  replace hC1 := hide hC1
  replace hC2 := hide hC2
  have hlt0 : w.heap.size < w.heap.size + 1 + 1 := by omega
  obtain ⟨W, hW⟩ : ∃ W, W = ((w.alloc (.cells #[.slice A vs.length c, .slice B fs.length d] 29)).alloc (.cells #[.slice A2 vs2.length c2, .slice B2 fs2.length d2] 29)).alloc (.cells #[.slice none 0 0, .slice none 0 0] 29) := ⟨_, rfl⟩
  have hWs : w.heap.size + 1 + 1 < W.heap.size := by rw [hW]; simp
  have hgW : w.grownBy W none := by rw [hW]; exact (by repeat (first | exact World.grownBy.refl _ _ | assumption | refine gr_alloc ?_ _ | (apply gr_tail; assumption) | refine gr_drewN ?_ _ | refine gr_drew ?_))
  have b0 : W.cell? ⟨w.heap.size, 0, none⟩ = some (.slice A vs.length c) := by rw [hW]; go_simp
  have b1 : W.cell? ⟨w.heap.size, 1, none⟩ = some (.slice B fs.length d) := by rw [hW]; go_simp
  have b2 : W.cell? ⟨w.heap.size + 1, 0, none⟩ = some (.slice A2 vs2.length c2) := by rw [hW]; go_simp
  have b3 : W.cell? ⟨w.heap.size + 1, 1, none⟩ = some (.slice B2 fs2.length d2) := by rw [hW]; go_simp
  have q0 : Cell W (w.heap.size + 1 + 1) 0 (.slice none 0 0) := by rw [hW]; exact ⟨by go_simp, by go_simp⟩
  have q1 : Cell W (w.heap.size + 1 + 1) 1 (.slice none 0 0) := by rw [hW]; exact ⟨by go_simp, by go_simp⟩
  replace hW := hide hW.symm
  replace hWs := hide hWs
  replace q0 := hide q0
  replace q1 := hide q1
  go_enter Try.func29, Try.ntmps29
  go_upto_region 1 with fail
  rw [hW.out]
  go_wp2_with fail
  obtain ⟨W', hW'⟩ : ∃ x, x = W.alloc (.cells #[.slice A vs.length c, .slice B fs.length d, .slice A2 vs2.length c2, .slice B2 fs2.length d2] 29) := ⟨_, rfl⟩
  have hgW' : W.grownBy W' none := by rw [hW']; exact gr_alloc (World.grownBy.refl _ _) _
  have u0 : W'.cell? ⟨W.heap.size, 0, none⟩ = some (.slice A vs.length c) := by rw [hW']; go_simp
  have u1 : W'.cell? ⟨W.heap.size, 1, none⟩ = some (.slice B fs.length d) := by rw [hW']; go_simp
  have u2 : W'.cell? ⟨W.heap.size, 2, none⟩ = some (.slice A2 vs2.length c2) := by rw [hW']; go_simp
  have u3 : W'.cell? ⟨W.heap.size, 3, none⟩ = some (.slice B2 fs2.length d2) := by rw [hW']; go_simp
  rw [← hW']
  clear hW'
  refine wp_loop_rounds 3 ?_
  rw [rounds_succ]
  go_wp2_with fail
  refine (hC1.out _ (gr_alloc (gr_trans hgW hgW') _)).mono ?_
  rintro e wa ⟨rfl, hga⟩
  have hga := gr_trans (gr_alloc (World.grownBy.refl W' none) _) hga
  replace u2 := hga.k u2
  replace u3 := hga.k u3
  go_wp2_with fail
  rw [rounds_succ]
  go_wp2_with fail
  refine (hC2.out _ (gr_alloc (gr_trans (gr_trans hgW hgW') hga) _)).mono ?_
  rintro e wb ⟨rfl, hgb⟩
  have hgb := gr_trans (gr_alloc (World.grownBy.refl wa none) _) hgb
  obtain ⟨x0, y0⟩ := q0.out.gr (gr_trans (gr_trans hgW' hga) hgb) (by simp)
  obtain ⟨x1, y1⟩ := q1.out.gr (gr_trans (gr_trans hgW' hga) hgb) (by simp)
  have hgX := gr_trans hgW (gr_trans (gr_trans hgW' hga) hgb)
  have hgs := fun (v1 v2 : Value) => gr_set (gr_set (World.grownBy.refl wb (some (w.heap.size + 1 + 1))) (p := ⟨w.heap.size + 1 + 1, 0, none⟩) (.inl rfl) v1) (p := ⟨w.heap.size + 1 + 1, 1, none⟩) (.inl rfl) v2
  have hk := fun v1 v2 => gr_row hgX (hgs v1 v2) (fun g e => by injection e; omega)
  clear u0 u1 u2 u3 hC1 q0 q1
  replace hgs := hide hgs
  replace hk := hide hk
  go_wp2_with fail
  exact bodyPost_ret (v := .tuple #[.agg #[.slice none 0 0, .slice none 0 0], .int .i64 F]) (by simp [results, Try.results29, go_sem, x0, x1, y0, y1]) rfl ⟨none, 0, none, 0, rfl, slNil _ _ _, slNil _ _ _, hk.out _ _⟩

theorem joined_any (A : Option Addr) (c : Nat) (vs : List V3) (B : Option Addr) (d : Nat) (fs : List Fc) (A2 : Option Addr) (c2 : Nat) (vs2 : List V3) (B2 : Option Addr) (d2 : Nat) (fs2 : List Fc) (w : World) (h1 : Sl w 0 A vs) (h2 : Sl w 0 B fs) (h3 : Sl w 0 A2 vs2) (h4 : Sl w 0 B2 fs2) :
    Calls Try.prog 29 #[.agg #[.slice A vs.length c, .slice B fs.length d], .agg #[.slice A2 vs2.length c2, .slice B2 fs2.length d2]] w (SMeshE w.heap.size (joinR ⟨vs, fs⟩ ⟨vs2, fs2⟩) (joinE ⟨vs, fs⟩ ⟨vs2, fs2⟩) w) := by
  unfold joinR joinE
  by_cases hM1 : meshF ⟨vs, fs⟩ = 0
  · by_cases hM2 : meshF ⟨vs2, fs2⟩ = 0
    · rw [if_neg (by simp [hM1, hM2]), if_neg (by simp [hM1]), if_neg (by simp [hM2])]
      exact joined_ok A c vs B d fs A2 c2 vs2 B2 d2 fs2 w h1 h2 h3 h4 hM1 hM2
    · rw [if_pos (.inr hM2), if_neg (by simp [hM1]), if_pos hM2]
      exact joined_bad2 A c vs B d fs A2 c2 vs2 B2 d2 fs2 w h1 h2 h3 h4 hM1 hM2
  · rw [if_pos (.inl hM1), if_pos hM1]
    exact joined_bad1 A c vs B d fs A2 c2 vs2 B2 d2 fs2 w h1 h2 hM1

end Go.Proofs.Ytjodjdjfagjiaaa

namespace Go.Bl
open Go Go.RowKit Go.WideShapes Go.Maps
variable {P : Program} {α β : Type}
theorem wp_lookup_M (w : World) {o : Oper} {a : Act} {K : Act → World → Prop} {Q : Exit → Act → World → Prop} (M : MapTy P α β) (mo x : Operand) (t : TypeId) (hop : o.op = Op.lookup t mo x false)
    (ht : P.underlying t = some (.map M.k M.e)) (hz : (zeroValue M.e).run P w = .ok (M.ev M.zero) w) (b n : Nat) (m : α → Option β) (hm : a.eval mo = .map (some b)) (hown : MapOf M w b n m) (key : α) (hx : a.eval x = M.kv key) (hok : M.ok key)
    (hK : K (a.put o.dst (M.ev ((m key).getD M.zero))) w) : o.wp P a w K Q := by
  unfold Oper.wp
  simp [execOp, hop, hm, hx, hown.look ht hz hok, Result.andThen]
  exact hK
end Go.Bl
namespace Go.Proofs.Ytjodjdjfagjiaaa
open Go.RowKit Go.Bl Go.Maps Go.WideShapes

def okI (n : Int) : Prop := (Lit.int .i64 n).wf = true
theorem okI_of {n : Int} (h : -9223372036854775808 ≤ n ∧ n ≤ 9223372036854775807) : okI n := by
  unfold okI Lit.wf
  simp [IntKind.wrap, i64_in h]
  exact h
theorem int_law : Keyed Try.prog 3 := int_keyed Try.underlying3
theorem int_key (n : Int) (h : okI n) : keyOf Try.prog 3 (.int .i64 n) = some (.int .i64 n) := by
  unfold keyOf
  simp only [Try.underlying3]
  unfold mapKey
  simp [Try.underlying3]
  exact h
theorem int_inv (v : Value) (l : Lit) (h : keyOf Try.prog 3 v = some l) : ∃ n, v = .int .i64 n ∧ okI n := by
  unfold keyOf at h
  simp only [Try.underlying3] at h
  unfold mapKey at h
  cases v <;> simp [Try.underlying3] at h
  obtain ⟨⟨rfl, h1⟩, _⟩ := h
  exact ⟨_, rfl, h1⟩
theorem zero_int (w : World) : (zeroValue 3).run Try.prog w = .ok (.int .i64 0) w := by kernel_rfl

/-- map[int]int -/
def intM : MapTy Try.prog Int Int where
  k := 3
  e := 3
  kv := .int .i64
  ok := okI
  kl := .int .i64
  keyed := int_law
  key := int_key
  kinj := fun x y h => by injection h
  inv := int_inv
  ev := .int .i64
  okE := okI
  el := fun b => .lit (.int .i64 b)
  zero := 0
  okZ := by unfold okI; decide
  plain := fun b h => plainElem_int Try.underlying3 h
  einv := fun v z h => by
    obtain ⟨a, rfl, rfl, h3⟩ := plainElem_int_inv Try.underlying3 h
    exact ⟨a, rfl, h3, rfl⟩
  einj := fun a b h => by simpa using h

theorem look_int {w : World} {b n : Nat} {m : Int → Option Int} (h : MapOf intM w b n m) {x r : Int} (hx : okI x) (hr : (m x).getD 0 = r) : (Instr.lookup 125 (.map (some b)) (.int .i64 x) false).run Try.prog w = .ok (.int .i64 r) w := by
  rw [← hr]
  exact h.look Try.underlying125 (zero_int _) hx

theorem vec_row : 49 < Try.prog.types.size := of_decide_eq_true (by kernel_rfl)
theorem vec_wide : (match Try.prog.underlying 49 with | some (.array _ _) | some (.struct _) => true | _ => false) = true := by rw [Try.underlying49]
theorem vec_type : Try.prog.keyType 49 = true := by kernel_rfl
theorem vec_cells : Try.prog.cellsOf 49 = 3 := by kernel_rfl
theorem vec_at : Try.prog.keyTypeAt 2 49 = true := by kernel_rfl
set_option maxRecDepth 20000 in
theorem vec_law : Keyed Try.prog 49 := Keyed.of_law (deep_law_laid laidOut (m := 2) (by omega) vec_row vec_at vec_wide)
def okV (v : V3) : Prop := okI v.x ∧ okI v.y ∧ okI v.z
def veV (v : V3) : Value := .agg #[.int .i64 v.x, .int .i64 v.y, .int .i64 v.z]
def veK (v : V3) : Lit := .string (keyBytes [.int .i64 v.x, .int .i64 v.y, .int .i64 v.z])
theorem vec_keyLits (d : Nat) (c0 c1 c2 : Value) : Try.prog.keyLits (d + 2) 49 [c0, c1, c2] = ((Try.prog.keyLits (d + 1) 3 [c0]).bind fun a => ((Try.prog.keyLits (d + 1) 3 [c1]).bind fun b => (Try.prog.keyLits (d + 1) 3 [c2]).map fun c => a ++ (b ++ c))) := by
  conv => lhs; unfold Program.keyLits
  simp only [Try.underlying49]
  simp [vec_cells, int_cells]
  generalize Try.prog.keyLits (d + 1) 3 [c0] = x
  generalize Try.prog.keyLits (d + 1) 3 [c1] = y
  generalize Try.prog.keyLits (d + 1) 3 [c2] = z
  cases x <;> cases y <;> cases z <;> simp
theorem vec_key (v : V3) (h : okV v) : keyOf Try.prog 49 (veV v) = some (veK v) := by
  obtain ⟨d, hd⟩ := size_two
  unfold keyOf
  simp only [Try.underlying49]
  rw [vec_type, hd, show (veV v).formed Try.prog 49 = true by simp [veV, Value.formed, Try.underlying49, vec_cells]]
  rw [show (veV v).cells.toList = [.int .i64 v.x, .int .i64 v.y, .int .i64 v.z] from rfl, vec_keyLits, int_keyLits_mk _ _ h.1, int_keyLits_mk _ _ h.2.1, int_keyLits_mk _ _ h.2.2]
  rfl
theorem arr_three : ∀ (cs : Array Value), cs.size = 3 → ∃ c0 c1 c2, cs = #[c0, c1, c2]
  | ⟨[a, b, c]⟩, _ => ⟨a, b, c, rfl⟩
theorem vec_inv (v : Value) (l : Lit) (h : keyOf Try.prog 49 v = some l) : ∃ s, v = veV s ∧ okV s := by
  obtain ⟨d, hd⟩ := size_two
  unfold keyOf at h
  simp only [Try.underlying49] at h
  rw [vec_type, hd] at h
  cases v with
  | agg cs =>
    by_cases hf : (Value.agg cs).formed Try.prog 49 = true
    · have hs : cs.size = 3 := by simpa [Value.formed, Try.underlying49, vec_cells] using hf
      obtain ⟨c0, c1, c2, rfl⟩ := arr_three cs hs
      simp only [hf, Bool.and_self, if_true] at h
      rw [show (Value.agg #[c0, c1, c2]).cells.toList = [c0, c1, c2] from rfl, vec_keyLits] at h
      cases h0 : Try.prog.keyLits (d + 1) 3 [c0] with
      | none => rw [h0] at h; simp at h
      | some a =>
        cases h1 : Try.prog.keyLits (d + 1) 3 [c1] with
        | none => rw [h0, h1] at h; simp at h
        | some b =>
          cases h2 : Try.prog.keyLits (d + 1) 3 [c2] with
          | none => rw [h0, h1, h2] at h; simp at h
          | some c =>
            obtain ⟨n, rfl, hn, _⟩ := int_keyLits _ _ _ h0
            obtain ⟨k, rfl, hk, _⟩ := int_keyLits _ _ _ h1
            obtain ⟨j, rfl, hj, _⟩ := int_keyLits _ _ _ h2
            exact ⟨⟨n, k, j⟩, rfl, hn, hk, hj⟩
    · simp [hf] at h
  | _ => simp [Value.formed, Try.underlying49] at h
/-- map[api.Vec]int -/
def vecM : MapTy Try.prog V3 Int where
  k := 49
  e := 3
  kv := veV
  ok := okV
  kl := veK
  keyed := vec_law
  key := vec_key
  kinj := fun x y h => by cases x; cases y; simp [veV] at h; simp [h]
  inv := vec_inv
  ev := .int .i64
  okE := okI
  el := fun b => .lit (.int .i64 b)
  zero := 0
  okZ := by unfold okI; decide
  plain := fun b h => plainElem_int Try.underlying3 h
  einv := fun v z h => by
    obtain ⟨a, rfl, rfl, h3⟩ := plainElem_int_inv Try.underlying3 h
    exact ⟨a, rfl, h3, rfl⟩
  einj := fun a b h => by simpa using h

theorem look_vec {w : World} {b n : Nat} {m : V3 → Option Int} (h : MapOf vecM w b n m) {x : V3} {r : Int} (hx : okV x) (hr : (m x).getD 0 = r) : (Instr.lookup 103 (.map (some b)) (.agg #[.int .i64 x.x, .int .i64 x.y, .int .i64 x.z]) false).run Try.prog w = .ok (.int .i64 r) w := by
  rw [← hr]
  exact h.look Try.underlying103 (zero_int _) hx
theorem lookOk_vec {w : World} {b n : Nat} {m : V3 → Option Int} (h : MapOf vecM w b n m) {x : V3} {r : Int} {ok : Bool} (hx : okV x) (hr : (m x).getD 0 = r) (hok : (m x).isSome = ok) : (Instr.lookup 103 (.map (some b)) (.agg #[.int .i64 x.x, .int .i64 x.y, .int .i64 x.z]) true).run Try.prog w = .ok (.tuple #[.int .i64 r, .bool ok]) w := by
  rw [← hr, ← hok]
  exact h.lookOk Try.underlying103 (zero_int _) hx
end Go.Proofs.Ytjodjdjfagjiaaa

namespace Go.Proofs.Ytjodjdjfagjiaaa
open Go.RowKit Go.Bl

theorem infoI : (Try.prog.info? 3).map (fun i => (i.zero, i.size, i.bytes)) = some (some (.int .i64 0), 1, 8) := by kernel_rfl

set_option maxHeartbeats 400000 in
theorem indexInt_any (A : Option Addr) (c : Nat) (l : List Int) (x : Int) (w : World) (hl : Sl w 0 A l) :
    Calls Try.prog 103 #[.slice A l.length c, .int .i64 x] w fun e w' => ∃ r : Int, e = .returned (.int .i64 r) ∧ (decide (0 ≤ r) = memB l x) ∧ w = w' := by
  have hm := hl.1
  unfold maxLen at hm
  go_enter Try.func103, Try.ntmps103
  go_wp2
  go_loop [8] (fun i => ∃ k : Nat, k ≤ l.length ∧ i = .int .i64 k ∧ Hid (∀ y ∈ l.take k, y ≠ x)) (fun i => l.length - (intOf i).toNat)
  case atStart => exact ⟨0, Nat.zero_le _, rfl, by simp [Hid]⟩
  case round =>
    obtain ⟨k, hk, rfl, ht⟩ := hrel
    obtain ⟨wr, hwr⟩ : ∃ wr : World, wr = w := ⟨_, rfl⟩
    subst hwr
    by_cases hlt : k < l.length
    · obtain ⟨g, o, cx, rfl, hb0, hb1, rfl, hc⟩ := (hl).at_ (by decide) hlt
      have c0 : wr.cell? ⟨g, o + k, none⟩ = some (.int .i64 l[k]) := by have := hc 0 _ rfl; rwa [show Enc.sz Int = 1 from rfl, Nat.mul_one] at this
      clear hc
      by_cases hz : x = l[k]
      · have hb : (x == l[k]) = true := by simp [hz]
        have HS : Hid (memB l x = true) := by simp only [Hid, memB, decide_eq_true_eq]; rw [hz]; exact List.getElem_mem _
        clear hz
        go_wp2
        go_ret
        exact ⟨_, rfl, by rw [HS.out]; simp, rfl⟩
      · have hb : (x == l[k]) = false := by simp [hz]
        have HS : Hid (∀ y ∈ l.take (k + 1), y ≠ x) := by
          intro y hy
          rw [take_snoc hlt, List.mem_append] at hy
          rcases hy with hy | hy
          · exact ht.out y hy
          · simp at hy; rw [hy]; exact fun h => hz h.symm
        clear hz
        go_wp2
        go_round
        case rel => exact ⟨k + 1, by omega, by go_num, HS⟩
        case measure => simp [intOf]; omega
    · have HS : Hid (memB l x = false) := by
        simp only [Hid, memB, decide_eq_false_iff_not]
        intro hx
        have := ht.out
        rw [List.take_of_length_le (by omega)] at this
        exact this x hx rfl
      go_wp2
      go_ret
      exact ⟨_, rfl, by rw [HS.out]; simp, rfl⟩

set_option maxHeartbeats 400000 in
theorem containsInt_any (A : Option Addr) (c : Nat) (l : List Int) (x : Int) (w : World) (hl : Sl w 0 A l) :
    Calls Try.prog 83 #[.slice A l.length c, .int .i64 x] w fun e w' => e = .returned (.bool (memB l x)) ∧ w = w' := by
  go_enter Try.func83, Try.ntmps83
  go_wp2_with fail
  refine (indexInt_any _ _ _ _ _ hl).mono ?_
  rintro e w1 ⟨r, rfl, hr, rfl⟩
  have hr := hide hr
  go_wp2_with fail
  go_ret
  exact ⟨rfl, rfl⟩

theorem isNaN2_any (x : Int) (w : World) : Calls Try.prog 125 #[.int .i64 x] w fun e w' => e = .returned (.bool false) ∧ w = w' := by
  go_enter Try.func125, Try.ntmps125
  go_wp2
  go_ret
  exact ⟨rfl, rfl⟩

def ltB (x y : Int) : Bool := decide (x < y)

theorem mem_of_get {l : List Int} {x : Int} {k : Nat} (hk : k < l.length) (h : l[k] = x) : memB l x = true := by
  simp only [memB, decide_eq_true_eq]; rw [← h]; exact List.getElem_mem _
theorem mem_none {l : List Int} {x : Int} {k : Nat} (h0 : ∀ i (hi : i < l.length), i < k → l[i] < x) (h1 : ∀ i (hi : i < l.length), k ≤ i → x < l[i]) : memB l x = false := by
  simp only [memB, decide_eq_false_iff_not]
  intro hx
  obtain ⟨i, hi, e⟩ := List.getElem_of_mem hx
  rcases Nat.lt_or_ge i k with h | h
  · have := h0 i hi h; omega
  · have := h1 i hi h; omega

end Go.Proofs.Ytjodjdjfagjiaaa
