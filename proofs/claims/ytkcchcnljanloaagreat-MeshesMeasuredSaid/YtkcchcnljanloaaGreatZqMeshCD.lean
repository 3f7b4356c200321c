/- Contracts of functions that this seat's laws reach, each: what one call returns and what it leaves in memory; no condition beyond each theorem's own hypotheses. -/
import Derived.Test.YtkcchcnljanloaaGreatZqMeshCB
import Derived.Test.YtkcchcnljanloaaGreatZqGpLib
set_option linter.unusedVariables false
set_option linter.unusedSimpArgs false
namespace Go.Proofs.YtkcchcnljanloaaGreat
open Go.RowKit Go.Bl

/-- the used vertices among the first k -/
def keepTo (vs : List V3) (U : List Bool) : Nat → List V3
  | 0 => []
  | k + 1 => keepTo vs U k ++ (if U.getD k false then [vs.getD k default] else [])

theorem keepTo_yes {vs : List V3} {U : List Bool} {k : Nat} (hv : k < vs.length) (hu : k < U.length) (h : U[k] = true) : keepTo vs U (k + 1) = keepTo vs U k ++ [vs[k]] := by
  conv => lhs; unfold keepTo
  rw [List.getD_eq_getElem?_getD, List.getElem?_eq_getElem hu, Option.getD_some, if_pos h, List.getD_eq_getElem?_getD, List.getElem?_eq_getElem hv, Option.getD_some]

theorem keepTo_no {vs : List V3} {U : List Bool} {k : Nat} (hu : k < U.length) (h : U[k] = false) : keepTo vs U (k + 1) = keepTo vs U k := by
  conv => lhs; unfold keepTo
  rw [List.getD_eq_getElem?_getD, List.getElem?_eq_getElem hu, Option.getD_some, if_neg (by rw [h]; simp), List.append_nil]
/-- the new number of a vertex -/
def rkI (vs : List V3) (U : List Bool) (i : Nat) : Int := (keepTo vs U i).length

def renum (vs : List V3) (U : List Bool) (f : Fc) : Fc := ⟨rkI vs U f.a.toNat, rkI vs U f.b.toNat, rkI vs U f.c.toNat⟩
/-- a mesh without the vertices that no face has -/
def trimM (m : MeshV) : MeshV := ⟨keepTo m.vs (useL m.vs.length m.fs) m.vs.length, m.fs.map (renum m.vs (useL m.vs.length m.fs))⟩
/-- the numbers that are set, behind k rounds -/
def numTo (vs : List V3) (U : List Bool) : Nat → List Int
  | 0 => List.replicate vs.length 0
  | k + 1 => if U.getD k false then (numTo vs U k).set k (rkI vs U k) else numTo vs U k

end Go.Proofs.YtkcchcnljanloaaGreat

namespace Go.Proofs.YtkcchcnljanloaaGreat
open Go Go.RowKit Go.Bl

theorem keepTo_mem (vs : List V3) (U : List Bool) : ∀ k, k ≤ vs.length → ∀ v, v ∈ keepTo vs U k ↔ ∃ i, ∃ (h : i < vs.length), i < k ∧ U.getD i false = true ∧ vs[i] = v
  | 0, _, v => by simp [keepTo]
  | k + 1, hk, v => by
    unfold keepTo
    rw [List.mem_append, keepTo_mem vs U k (by omega) v]
    by_cases hu : U.getD k false = true
    · rw [if_pos hu]
      simp only [List.getD_eq_getElem?_getD, List.getElem?_eq_getElem (show k < vs.length by omega), Option.getD_some, List.mem_singleton]
      constructor
      · rintro (⟨i, h, h1, h2, h3⟩ | rfl)
        · exact ⟨i, h, by omega, by simpa [List.getD_eq_getElem?_getD] using h2, h3⟩
        · exact ⟨k, by omega, by omega, by simpa [List.getD_eq_getElem?_getD] using hu, rfl⟩
      · rintro ⟨i, h, h1, h2, h3⟩
        by_cases e : i = k
        · subst e; exact .inr h3.symm
        · exact .inl ⟨i, h, by omega, by simpa [List.getD_eq_getElem?_getD] using h2, h3⟩
    · rw [if_neg hu]
      simp only [List.not_mem_nil, or_false]
      constructor
      · rintro ⟨i, h, h1, h2, h3⟩; exact ⟨i, h, by omega, h2, h3⟩
      · rintro ⟨i, h, h1, h2, h3⟩
        have : i ≠ k := by rintro rfl; exact hu h2
        exact ⟨i, h, by omega, h2, h3⟩

end Go.Proofs.YtkcchcnljanloaaGreat

namespace Go.Proofs.YtkcchcnljanloaaGreat
open Go.RowKit Go.Bl

theorem useL_hit {n : Nat} {fs : List Fc} {f : Fc} (hf : f ∈ fs) {i : Nat} (hi : i < n) (h : f.a = i ∨ f.b = i ∨ f.c = i) : (useL n fs).getD i false = true := by
  have hl := useL_len n fs
  rw [List.getD_eq_getElem?_getD, List.getElem?_eq_getElem (by omega), Option.getD_some, useL_at, List.any_eq_true]
  exact ⟨f, hf, by rcases h with h | h | h <;> simp [hasI, h]⟩

/-- what stands while trimmed gathers -/
def TrR (Wa : World) (gm gu gn n : Nat) (U : List Bool) (NL : List Int) (wx : World) : Prop :=
  Wa.grownBy wx none ∧ Cell wx gm 1 (.slice none 0 0) ∧ Own wx 0 4 (some ⟨gu, 0, none⟩) n U ∧ Own wx 0 3 (some ⟨gn, 0, none⟩) n NL

theorem TrR.ok {Wa : World} {gm gu gn n lo : Nat} {U : List Bool} {NL : List Int} {Aq : Option Addr} (h1 : Wa.heap.size ≤ gm) (h2 : gm < lo) (h3 : gu < lo) (h4 : gn < lo) (h5 : gu ≠ gm) (h6 : gn ≠ gm) (hA : ∀ g, blk Aq = some g → lo ≤ g) : GpR (TrR Wa gm gu gn n U NL) gm 0 Aq where
  pure := fun w w' ⟨a, b, c, d⟩ hg => ⟨gr_trans a hg, b.gr hg (by simp), c.pure hg, d.pure hg⟩
  app := fun w w' A5 ⟨a, b, c, d⟩ hG => by
    refine ⟨gr_row a hG.1 (fun g e => by have := hA g e; omega), b.gr hG.1 (fun e => by have := hA _ e; omega), c.ne hG.1 (fun g e1 e2 => ?_), d.ne hG.1 (fun g e1 e2 => ?_)⟩
    · simp only [blk, Option.map_some, Option.some.injEq] at e1; have := hA g e2; omega
    · simp only [blk, Option.map_some, Option.some.injEq] at e1; have := hA g e2; omega
  set := fun w v ⟨a, b, c, d⟩ => by
    have hg := gr_set (World.grownBy.refl w (some gm)) (p := ⟨gm, 0, none⟩) (.inl rfl) v
    refine ⟨gr_set a (.inr h1) v, b.set_ne _ (by decide), c.ne hg (fun g e1 e2 => ?_), d.ne hg (fun g e1 e2 => ?_)⟩
    · simp only [blk, Option.map_some, Option.some.injEq] at e1; injection e2; omega
    · simp only [blk, Option.map_some, Option.some.injEq] at e1; injection e2; omega

/-- what stands while trimmed's faces are gathered -/
def TrF (Wa : World) (gm gn lo gb : Nat) (Av : Option Addr) (cv n : Nat) (V : List V3) (NL : List Int) (x y z : Value) (wx : World) : Prop :=
  Wa.grownBy wx none ∧ Cell wx gm 0 (.slice Av V.length cv) ∧ Own wx lo 38 Av cv V ∧ Own wx 0 3 (some ⟨gn, 0, none⟩) n NL ∧ Cell wx gb 0 x ∧ Cell wx gb 1 y ∧ Cell wx gb 2 z

theorem TrF.ok {Wa : World} {gm gn n lo lo3 gb cv : Nat} {Av Bq : Option Addr} {V : List V3} {NL : List Int} {x y z : Value} (h1 : Wa.heap.size ≤ gm) (h2 : gm < lo) (h4 : gn < lo) (h6 : gn ≠ gm) (h7 : lo3 ≤ gb) (h8 : lo ≤ lo3) (hV : ∀ g, blk Av = some g → g < lo3) (hA : ∀ g, blk Bq = some g → lo3 ≤ g ∧ g < gb) : GpR (TrF Wa gm gn lo gb Av cv n V NL x y z) gm 1 Bq where
  pure := fun w w' ⟨a, b, c, d, e0, e1, e2⟩ hg => ⟨gr_trans a hg, b.gr hg (by simp), c.pure hg, d.pure hg, e0.gr hg (by simp), e1.gr hg (by simp), e2.gr hg (by simp)⟩
  app := fun w w' A5 ⟨a, b, c, d, e0, e1, e2⟩ hG => by
    have hb : blk Bq ≠ some gb := fun e => by have := hA _ e; omega
    refine ⟨gr_row a hG.1 (fun g e => by have := hA g e; omega), b.gr hG.1 (fun e => by have := hA _ e; omega), c.ne hG.1 (fun g e1 e2 => ?_), d.ne hG.1 (fun g e1 e2 => ?_), e0.gr hG.1 hb, e1.gr hG.1 hb, e2.gr hG.1 hb⟩
    · have := hA g e2; have := hV g e1; omega
    · simp only [blk, Option.map_some, Option.some.injEq] at e1; have := hA g e2; omega
  set := fun w v ⟨a, b, c, d, e0, e1, e2⟩ => by
    have hg := gr_set (World.grownBy.refl w (some gm)) (p := ⟨gm, 1, none⟩) (.inl rfl) v
    have hb : some gm ≠ some gb := fun e => by injection e; omega
    refine ⟨gr_set a (.inr h1) v, b.set_ne _ (by decide), c.ne hg (fun g e1 e2 => ?_), d.ne hg (fun g e1 e2 => ?_), e0.gr hg hb, e1.gr hg hb, e2.gr hg hb⟩
    · have := (c.blk_lt e1).1; injection e2; omega
    · simp only [blk, Option.map_some, Option.some.injEq] at e1; injection e2; omega

end Go.Proofs.YtkcchcnljanloaaGreat
