/- Contracts of functions that this seat's laws reach, each: what one call returns and what it leaves in memory; no condition beyond each theorem's own hypotheses. -/
import Derived.Test.YtmhnjpcjagbdhaaZqGeoD
import Derived.Test.YtmhnjpcjagbdhaaZqWallB
import Derived.Test.YtmhnjpcjagbdhaaZqPathN
set_option linter.unusedVariables false
set_option linter.unusedSimpArgs false
namespace Go.Proofs.Ytmhnjpcjagbdhaa
open Go Go.RowKit Go.Bl

def ringP (r : List Pt) : PathV := ⟨r, true⟩

def pathsR (rs : List (List Pt)) : List PathV := rs.map ringP

theorem dist_par {a b c : Pt} (h : parV (subP b a) (subP c b)) : distP a c = distP a b + distP b c := by
  have h1 := par_x h
  have h2 := par_y h
  have h3 := par_cr h ⟨1, 1⟩
  have h4 := par_cr h ⟨1, -1⟩
  unfold ssg subP at h1 h2
  unfold ssg crV subP at h3 h4
  simp only [Int.mul_one, Int.mul_neg] at h1 h2 h3 h4
  unfold distP
  omega

theorem getD_cor {r : List Pt} {i : Nat} (h : i < r.length) : r.getD i default = cor r i := by unfold cor; rw [Nat.mod_eq_of_lt h]

theorem stepL_ring {r : List Pt} {i : Nat} (h : i < r.length) : stepL (ringP r) i = distP (cor r (r.length - 1 + i)) (cor r (r.length - 1 + i + 1)) := by
  unfold stepL ringP
  simp only
  by_cases h0 : i = 0
  · subst h0
    rw [if_pos rfl, if_pos trivial, getD_cor (by omega), getD_cor (by omega)]
    rw [show r.length - 1 + 0 + 1 = r.length by omega, cor_len]; rfl
  · rw [if_neg h0, getD_cor (by omega), getD_cor h, show r.length - 1 + i = (i - 1) + r.length by omega, show (i - 1) + r.length + 1 = i + r.length by omega, cor_mod, cor_mod]

theorem longTo_ring {r : List Pt} : ∀ k, k ≤ r.length → longTo (ringP r) k = foldW (fun a b : Int => a + b) 0 (fun i => distP (cor r i) (cor r (i + 1))) (r.length - 1) k
  | 0, _ => rfl
  | k + 1, h => by
    rw [longTo_succ, longTo_ring k (by omega), stepL_ring (by omega)]
    rfl

theorem longP_ring (r : List Pt) : longP (ringP r) = foldW (fun a b : Int => a + b) 0 (fun i => distP (cor r i) (cor r (i + 1))) 0 r.length := by
  show longTo (ringP r) r.length = _
  rw [longTo_ring _ (Nat.le_refl _)]
  refine foldW_rot cm_add _ (fun i => ?_) _
  show distP (cor r (i + r.length)) (cor r (i + r.length + 1)) = _
  rw [show i + r.length + 1 = i + 1 + r.length by omega, cor_mod, cor_mod]

theorem longP_simp {r : List Pt} (h : ringF r = 0) : longP (ringP (simpR r)) = longP (ringP r) := by
  rw [longP_ring, longP_ring]
  exact simp_sum h cm_add distP (fun a b c k => dist_par k)

theorem orL_null : ∀ {l : List Int}, (∀ x ∈ l, x = 0) → orL l = 0
  | [], _ => rfl
  | x :: l, h => by
    unfold orL
    rw [if_neg (by rw [h x (by simp)]; simp)]
    exact orL_null fun y hy => h y (List.mem_cons_of_mem _ hy)

theorem ring_far {r : List Pt} (h : ringF r = 0) : r.any farP = false := by
  obtain ⟨h3, h5, -, -, -⟩ := ringF_ok h
  unfold ringF at h
  rw [if_neg (by omega), if_neg (by omega)] at h
  by_cases k : r.any farP = true
  · rw [if_pos k] at h; cases h
  · simpa using k

theorem pathsR_zero {rs : List (List Pt)} (h : ROk2 rs) : pathsF (pathsR rs) = 0 := by
  unfold pathsF pathsR
  have := h.few
  rw [List.length_map, if_neg (by omega)]
  refine orL_null fun x hx => ?_
  rw [List.map_map] at hx
  obtain ⟨r, hr, rfl⟩ := List.mem_map.1 hx
  have hF := h.ring r hr
  obtain ⟨h3, h5, -, -, -⟩ := ringF_ok hF
  show pathF (ringP r) = 0
  unfold pathF ringP
  simp only
  rw [if_neg (by omega), if_neg (by omega), if_neg (by omega), ring_far hF]
  rfl

theorem long_same {rs : List (List Pt)} (h : ROk2 rs) : longs (pathsR (simpS rs)) = longs (pathsR rs) := by
  unfold longs pathsR simpS
  rw [List.map_map, List.map_map, List.map_map]
  exact List.map_congr_left fun r hr => longP_simp (h.ring r hr)

theorem on_self (p d : Pt) : onB p p d = true := by
  rw [onB_iff]
  exact ⟨by unfold turnP; grind, by unfold boxP; omega⟩

theorem on_self2 (p d : Pt) : onB p d p = true := by rw [onB_flip]; exact on_self p d

theorem box_pp {c p : Pt} (h : boxP c p p) : c = p := by
  unfold boxP at h
  cases c; cases p; simp only [Pt.mk.injEq] at *; omega

theorem pp_on {c d p : Pt} : meetM c d p p = onB p c d := by
  rw [Bool.eq_iff_iff]
  constructor
  · intro h
    rw [meetM_eq] at h
    unfold meetR at h
    simp only [Bool.or_eq_true, Bool.and_eq_true, crossB, decide_eq_true_eq] at h
    rcases h with (((k | k) | k) | k) | k
    · rw [box_pp (onB_iff.1 k).2]; exact on_self _ _
    · rw [box_pp (onB_iff.1 k).2]; exact on_self2 _ _
    · exact k
    · exact k
    · omega
  · intro h
    have k := onB_iff.1 h
    exact (meetM_sym _ _ _ _).1 (meet_on k.1 k.2)

theorem metR_two {r : List Pt} {p : Pt} {i j : Nat} (hij : i ≠ j) {n : Nat} (h : ∀ k, k < n → meetM (cor r k) (cor r (k + 1)) p p = decide (k = i ∨ k = j)) : ∀ k, k ≤ n → metR r p p k = (if i < k then 1 else 0) + (if j < k then 1 else 0)
  | 0, _ => rfl
  | k + 1, hk => by
    unfold metR
    rw [metR_two hij h k (by omega), h k (by omega)]
    by_cases h1 : k = i
    · subst h1
      have : ¬ k = j := hij
      by_cases h2 : j < k
      · simp [h2, show j < k + 1 by omega]
      · simp [h2, show ¬ j < k + 1 by omega]
    · by_cases h2 : k = j
      · subst h2
        by_cases h3 : i < k
        · simp [h1, h3, show i < k + 1 by omega]
        · simp [h1, h3, show ¬ i < k + 1 by omega]
      · by_cases h3 : i < k <;> by_cases h4 : j < k <;> simp [h1, h2, h3, h4] <;> omega

theorem metR_null {r : List Pt} {p : Pt} {n : Nat} (h : ∀ k, k < n → meetM (cor r k) (cor r (k + 1)) p p = false) : ∀ k, k ≤ n → metR r p p k = 0
  | 0, _ => rfl
  | k + 1, hk => by
    unfold metR
    rw [metR_null h k (by omega), h k (by omega)]; rfl

theorem metR_some {r : List Pt} {p : Pt} {i : Nat} (h : meetM (cor r i) (cor r (i + 1)) p p = true) : ∀ k, i < k → 1 ≤ metR r p p k
  | 0, hk => by omega
  | k + 1, hk => by
    unfold metR
    by_cases e : k = i
    · subst e
      rw [h]
      have := (metR_bd r p p k).1
      simp; omega
    · have := metR_some h k (by omega)
      split <;> omega

theorem turn_cyc (a b c : Pt) : turnP b c a = turnP a b c := by unfold turnP; grind
/-- the corner of a ring without straight corners: on two sides -/
theorem metR_corner {r : List Pt} (R : RR r.length (cor r)) (ht : ∀ i, turnP (cor r i) (cor r (i + 1)) (cor r (i + 2)) ≠ 0) {j : Nat} (hj : j < r.length) : metR r (cor r j) (cor r j) r.length = 2 := by
  have n3 := R.n3
  obtain ⟨j', hj', hjl⟩ : ∃ x, (x + 1) % r.length = j ∧ x < r.length := by
    by_cases h0 : j = 0
    · exact ⟨r.length - 1, by rw [h0, show r.length - 1 + 1 = r.length by omega, Nat.mod_self], by omega⟩
    · exact ⟨j - 1, by rw [show j - 1 + 1 = j by omega, Nat.mod_eq_of_lt hj], by omega⟩
  have hne : j ≠ j' := fun e => by
    subst e
    by_cases h1 : j + 1 < r.length
    · rw [Nat.mod_eq_of_lt h1] at hj'; omega
    · rw [show j + 1 = r.length by omega, Nat.mod_self] at hj'; omega
  have ej : cor r (j' + 1) = cor r j := by
    have := cor_mm r (j' + 1) 0
    simp only [Nat.add_zero] at this
    rw [hj'] at this; exact this.symm
  have key : ∀ k, k < r.length → meetM (cor r k) (cor r (k + 1)) (cor r j) (cor r j) = decide (k = j ∨ k = j') := by
    intro k hk
    rw [pp_on]
    by_cases h1 : k = j
    · subst h1; rw [decide_eq_true (.inl rfl)]; exact on_self _ _
    · by_cases h2 : k = j'
      · subst h2; rw [decide_eq_true (.inr rfl), ← ej]; exact on_self2 _ _
      · rw [decide_eq_false (by omega), Bool.eq_false_iff]
        intro hon
        -- k is j + e
        obtain ⟨e, he1, he2, hek⟩ : ∃ e, 1 ≤ e ∧ e + 2 ≤ r.length ∧ (j + e = k ∨ j + e = k + r.length) := by
          rcases Nat.lt_or_gt_of_ne h1 with hl | hl
          · refine ⟨k + r.length - j, by omega, ?_, .inr (by omega)⟩
            by_cases h0 : j' + 1 < r.length
            · rw [Nat.mod_eq_of_lt h0] at hj'; omega
            · rw [show j' + 1 = r.length by omega, Nat.mod_self] at hj'; omega
          · refine ⟨k - j, by omega, ?_, .inl (by omega)⟩
            by_cases h0 : j' + 1 < r.length
            · rw [Nat.mod_eq_of_lt h0] at hj'; omega
            · omega
        have ck : cor r k = cor r (j + e) ∧ cor r (k + 1) = cor r (j + e + 1) := by
          rcases hek with h | h
          · rw [← h]; exact ⟨rfl, rfl⟩
          · rw [h, show k + r.length + 1 = k + 1 + r.length by omega, cor_mod, cor_mod]; exact ⟨rfl, rfl⟩
        rw [ck.1, ck.2] at hon
        have ho := onB_iff.1 hon
        by_cases he : e = 1
        · subst he
          apply ht j
          rw [← turn_cyc]
          exact ho.1
        · have := R.side j (j + e) (by omega) (by omega)
          rw [meet_on ho.1 ho.2] at this
          cases this
  rw [metR_two hne key _ (Nat.le_refl _), if_pos hj, if_pos hjl]; rfl

theorem metR_other {rs : List (List Pt)} (h : Apart rs) {i k : Nat} (hi : i < rs.length) (hk : k < rs.length) (hne : k ≠ i) (j : Nat) : metR (rs.getD k []) (cor (rs.getD i []) j) (cor (rs.getD i []) j) (rs.getD k []).length = 0 := by
  refine metR_null (fun m _ => ?_) _ (Nat.le_refl _)
  rw [pp_on, Bool.eq_false_iff]
  intro hon
  have ho := onB_iff.1 hon
  have := h i k hi hk (Ne.symm hne) j m
  rw [meet_on ho.1 ho.2] at this
  cases this

theorem metI_one {rs : List (List Pt)} {i : Nat} {p : Pt} {c : Int} (h1 : metR (rs.getD i []) p p (rs.getD i []).length = c) (h2 : ∀ k, k < rs.length → k ≠ i → metR (rs.getD k []) p p (rs.getD k []).length = 0) : ∀ k, k ≤ rs.length → metI rs p p k = if i < k then c else 0
  | 0, _ => rfl
  | k + 1, hk => by
    unfold metI
    rw [metI_one h1 h2 k (by omega)]
    by_cases e : k = i
    · subst e; rw [h1, if_neg (by omega), if_pos (by omega)]; omega
    · rw [h2 k (by omega) e]
      by_cases h3 : i < k
      · rw [if_pos h3, if_pos (by omega)]; omega
      · rw [if_neg h3, if_neg (by omega)]; rfl

theorem metI_some {rs : List (List Pt)} {i : Nat} {p : Pt} (h1 : 1 ≤ metR (rs.getD i []) p p (rs.getD i []).length) : ∀ k, i < k → 1 ≤ metI rs p p k
  | 0, hk => by omega
  | k + 1, hk => by
    unfold metI
    by_cases e : k = i
    · subst e
      have : ∀ m, 0 ≤ metI rs p p m := fun m => by
        induction m with
        | zero => exact Int.le_refl _
        | succ m ih => unfold metI; have := (metR_bd (rs.getD m []) p p (rs.getD m []).length).1; omega
      have := this k
      omega
    · have := metI_some h1 k (by omega)
      have := (metR_bd (rs.getD k []) p p (rs.getD k []).length).1
      omega
/-- a corner of the region without straight corners -/
theorem met_corner {rs : List (List Pt)} (h : ROk2 rs) {i : Nat} (hi : i < rs.length) {p : Pt} (hp : p ∈ simpR (rs.getD i [])) :
    metF (simpS rs) p p = 2 ∧ 1 ≤ metF rs p p ∧ farP p = false := by
  have hF := ring_at h hi
  have R := rr_of hF
  have hm : 0 < (keepI (rs.getD i [])).length := by have := keep3 R; omega
  have h2 := simp_rok2 h
  obtain ⟨j, hj, rfl⟩ := List.mem_iff_getElem.1 hp
  rw [← cor_lt hj]
  refine ⟨?_, ?_, ?_⟩
  · have hi2 : i < (simpS rs).length := by rw [simpS_len]; exact hi
    have e := simpS_getD rs i
    have hc : metR ((simpS rs).getD i []) (cor (simpR (rs.getD i [])) j) (cor (simpR (rs.getD i [])) j) ((simpS rs).getD i []).length = 2 := by
      rw [e]
      refine metR_corner (rr_simp R) (fun k => ?_) hj
      rw [cor_simp hm, cor_simp hm, cor_simp hm]
      exact sg_turn R hm k
    unfold metF
    rw [metI_one hc (fun k hk hne => ?_) _ (Nat.le_refl _), if_pos hi2]
    have := metR_other h2.apart hi2 hk hne j
    rw [e] at this
    exact this
  · rw [cor_simp hm]
    unfold metF
    have n3 := R.n3
    have hlt := Nat.mod_lt (sgI (rs.getD i []) j) (show 0 < (rs.getD i []).length by omega)
    refine metI_some (i := i) (metR_some (i := sgI (rs.getD i []) j % (rs.getD i []).length) ?_ _ hlt) _ hi
    have e0 := cor_mm (rs.getD i []) (sgI (rs.getD i []) j) 0
    simp only [Nat.add_zero] at e0
    rw [pp_on, e0]
    exact on_self _ _
  · have := ring_far (simp_ok hF)
    rw [List.any_eq_false] at this
    have h3 := this _ (cor_mem (by omega) j)
    simpa using h3

end Go.Proofs.Ytmhnjpcjagbdhaa
