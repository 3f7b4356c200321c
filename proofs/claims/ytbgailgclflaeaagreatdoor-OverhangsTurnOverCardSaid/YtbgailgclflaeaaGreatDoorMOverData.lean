/- Contracts of functions that this seat's laws reach, each: what one call returns and what it leaves in memory; no condition beyond each theorem's own hypotheses. -/
import Derived.Test.YtbgailgclflaeaaGreatDoorMMeshBH
import Derived.Test.YtbgailgclflaeaaGreatDoorMOpenData
set_option linter.unusedVariables false
set_option linter.unusedSimpArgs false
namespace Go.Proofs.YtbgailgclflaeaaGreatDoor
open Go Go.RowKit Go.Bl

theorem allS_swp (fs : List Fc) : (allS (fs.map swp)).Perm ((allS fs).map rvS) := by
  induction fs with
  | nil => exact List.Perm.refl _
  | cons f r ih =>
    show (sdsOf (swp f) ++ allS (r.map swp)).Perm ((sdsOf f ++ allS r).map rvS)
    rw [List.map_append]
    refine List.Perm.append ?_ ih
    show [(⟨f.a, f.c⟩ : Sd), ⟨f.c, f.b⟩, ⟨f.b, f.a⟩].Perm [⟨f.b, f.a⟩, ⟨f.c, f.b⟩, ⟨f.a, f.c⟩]
    exact (List.reverse_perm [(⟨f.b, f.a⟩ : Sd), ⟨f.c, f.b⟩, ⟨f.a, f.c⟩])

theorem allS_swp_nodup {fs : List Fc} (h : (allS fs).Nodup) : (allS (fs.map swp)).Nodup := by
  rw [(allS_swp fs).nodup_iff]
  unfold List.Nodup at h ⊢
  rw [List.pairwise_map]
  exact h.imp fun hab e => hab (rvS_inj e)

theorem atV_mir (vs : List V3) (i : Int) : atV (vs.map (mirV 2)) i = mirV 2 (atV vs i) := by
  unfold atV
  simp only [List.getD_eq_getElem?_getD, List.getElem?_map]
  cases vs[i.toNat]? with
  | none => rfl
  | some v => rfl

theorem norm_mir (vs : List V3) (f : Fc) : normV (vs.map (mirV 2)) (swp f) = ⟨(normV vs f).x, (normV vs f).y, -(normV vs f).z⟩ := by
  unfold normV
  simp only [atV_mir, swp]
  generalize atV vs f.a = p
  generalize atV vs f.b = q
  generalize atV vs f.c = r
  simp only [crossV, lessV, mirV, show ¬ ((2 : Int) = 0) by decide, show ¬ ((2 : Int) = 1) by decide, if_false]
  have e1 : ∀ a b : Int, -a - -b = -(a - b) := fun a b => by omega
  simp only [e1, Int.mul_neg, Int.neg_mul, V3.mk.injEq]
  refine ⟨?_, ?_, ?_⟩
  · rw [Int.mul_comm (r.y - p.y), Int.mul_comm (r.z - p.z)]; omega
  · rw [Int.mul_comm (r.z - p.z), Int.mul_comm (r.x - p.x)]; omega
  · rw [Int.mul_comm (r.x - p.x), Int.mul_comm (r.y - p.y)]; omega

theorem faceF_mir (vs : List V3) (f : Fc) : faceF (vs.map (mirV 2)) (swp f) = faceF vs f := by
  unfold faceF
  have e1 : inF (vs.map (mirV 2)).length (swp f) = inF vs.length f := by
    unfold inF swp; rw [List.length_map]; simp only [Bool.and_assoc, Bool.and_comm (inI vs.length f.b)]
  have e2 : (normV (vs.map (mirV 2)) (swp f) = ⟨0, 0, 0⟩) ↔ (normV vs f = ⟨0, 0, 0⟩) := by
    rw [norm_mir]
    generalize normV vs f = n
    cases n; simp only [V3.mk.injEq]; omega
  rw [e1]; simp only [e2]

theorem facesF_mir (vs : List V3) : ∀ fs : List Fc, facesF (vs.map (mirV 2)) (fs.map swp) = facesF vs fs
  | [] => rfl
  | f :: r => by
    show (if faceF (vs.map (mirV 2)) (swp f) = 0 then facesF (vs.map (mirV 2)) (r.map swp) else faceF (vs.map (mirV 2)) (swp f)) = _
    rw [faceF_mir, facesF_mir vs r]; rfl

theorem farZ_neg (n : Int) : farZ (-n) = farZ n := by
  unfold farZ
  rw [Bool.or_comm]
  congr 1 <;> rw [decide_eq_decide] <;> omega

theorem far_mir (v : V3) : farV (mirV 2 v) = farV v := by
  unfold farV mirV
  simp [farZ_neg]

theorem meshF_mir {m : MeshV} (h : meshF m = 0) : meshF (mirM m 2) = 0 := by
  unfold meshF at h ⊢
  unfold mirM
  by_cases h1 : m.fs = []
  · rw [if_pos h1] at h; cases h
  rw [if_neg h1] at h
  rw [if_neg (by simpa using h1)]
  simp only [List.length_map]
  by_cases h2 : 1000 < m.vs.length ∨ 1000 < m.fs.length
  · rw [if_pos h2] at h; cases h
  rw [if_neg h2] at h ⊢
  have e : (m.vs.map (mirV 2)).any farV = m.vs.any farV := by
    rw [List.any_map]; congr 1; funext v; exact far_mir v
  rw [e]
  by_cases h3 : m.vs.any farV = true
  · rw [if_pos h3] at h; cases h
  rw [if_neg h3] at h ⊢
  rw [facesF_mir]
  by_cases h4 : facesF m.vs m.fs = 0
  · rw [if_pos h4] at h ⊢
    by_cases h5 : (allS m.fs).Nodup
    · rw [if_pos (allS_swp_nodup h5)]
    · rw [if_neg h5] at h; cases h
  · rw [if_neg h4] at h; exact absurd h h4

theorem thoseTo_mem (p : Fc → Bool) (fs : List Fc) {i : Nat} : ∀ k, k ≤ fs.length → (((i : Int) ∈ thoseTo p fs k) ↔ (i < k ∧ p (fs.getD i default) = true))
  | 0, _ => by simp [thoseTo]
  | k + 1, hk => by
    unfold thoseTo
    rw [List.mem_append, thoseTo_mem p fs k (by omega)]
    by_cases hp : p (fs.getD k default) = true
    · rw [if_pos hp]
      simp only [List.mem_singleton]
      constructor
      · rintro (⟨h1, h2⟩ | h1)
        · exact ⟨by omega, h2⟩
        · have : i = k := by omega
          subst this; exact ⟨by omega, hp⟩
      · rintro ⟨h1, h2⟩
        by_cases e : i = k
        · right; omega
        · left; exact ⟨by omega, h2⟩
    · rw [if_neg hp]
      simp only [List.not_mem_nil, or_false]
      constructor
      · rintro ⟨h1, h2⟩; exact ⟨by omega, h2⟩
      · rintro ⟨h1, h2⟩
        refine ⟨?_, h2⟩
        have : i ≠ k := by rintro rfl; exact hp h2
        omega

theorem flatB (n : V3) : overB 0 1 n = decide (n.z < 0) := by
  unfold overB
  by_cases h : n.z < 0 <;> simp [h]

theorem steepB {n : V3} (h : overB 1 1 n = true) : n.z < 0 := by
  unfold overB at h; simp at h; exact h.1

theorem over_flat {m : MeshV} (h : meshF m = 0) : overF m 0 1 = 0 ∧ ∀ i (hi : i < m.fs.length), memB (overL m 0 1) i = decide ((normV m.vs m.fs[i]).z < 0) := by
  have h0 : overF m 0 1 = 0 := by unfold overF; rw [if_pos h]; decide
  refine ⟨h0, fun i hi => ?_⟩
  unfold overL memB
  rw [if_pos h0, decide_eq_decide, thoseTo_mem _ _ _ (Nat.le_refl _)]
  simp only [List.getD_eq_getElem?_getD, List.getElem?_eq_getElem hi, Option.getD_some, flatB]
  simp [hi]

theorem over_steep {m : MeshV} (h : meshF m = 0) : overF m 1 1 = 0 ∧ ∀ i (hi : i < m.fs.length), memB (overL m 1 1) i = true → (normV m.vs m.fs[i]).z < 0 := by
  have h0 : overF m 1 1 = 0 := by unfold overF; rw [if_pos h]; decide
  refine ⟨h0, fun i hi hm => ?_⟩
  unfold overL memB at hm
  rw [if_pos h0] at hm
  have := (thoseTo_mem _ _ _ (Nat.le_refl _)).1 (of_decide_eq_true hm)
  simp only [List.getD_eq_getElem?_getD, List.getElem?_eq_getElem hi, Option.getD_some] at this
  exact steepB this.2

theorem over_mir {m : MeshV} (h : meshF m = 0) : mirR m 2 = (mirM m 2, 0) ∧ ∀ i (hi : i < m.fs.length), memB (overL (mirM m 2) 0 1) i = decide (0 < (normV m.vs m.fs[i]).z) := by
  have h2 := meshF_mir h
  refine ⟨?_, fun i hi => ?_⟩
  · unfold mirR
    rw [if_pos h, if_neg (by decide), h2]
    unfold okM; rw [if_pos h2]
  · rw [(over_flat h2).2 i (by simpa [mirM] using hi)]
    simp only [mirM, List.getElem_map, norm_mir]
    rw [decide_eq_decide]; omega

end Go.Proofs.YtbgailgclflaeaaGreatDoor
