/- Contracts of functions that this seat's laws reach, each: what one call returns and what it leaves in memory; no condition beyond each theorem's own hypotheses. -/
import Derived.Test.YtbpkkgeedkegcaaGreatDoorZqGpLib
import Derived.Test.YtbpkkgeedkegcaaGreatDoorZqMeshBH
set_option linter.unusedVariables false
set_option linter.unusedSimpArgs false
namespace Go.Proofs.YtbpkkgeedkegcaaGreatDoor
open Go Go.RowKit Go.Bl

theorem nodup_map_on {α β : Type} (f : α → β) {l : List α} (hn : l.Nodup) (hf : ∀ x ∈ l, ∀ y ∈ l, f x = f y → x = y) : (l.map f).Nodup := by
  induction l with
  | nil => simp
  | cons x l ih =>
    obtain ⟨h1, h2⟩ := List.nodup_cons.1 hn
    rw [List.map_cons, List.nodup_cons]
    refine ⟨fun h => ?_, ih h2 fun a ha b hb => hf a (List.mem_cons_of_mem _ ha) b (List.mem_cons_of_mem _ hb)⟩
    obtain ⟨y, hy, e⟩ := List.mem_map.1 h
    have := hf y (List.mem_cons_of_mem _ hy) x (List.mem_cons_self ..) e
    exact h1 (this ▸ hy)

theorem faceF_iff {vs : List V3} {f : Fc} : faceF vs f = 0 ↔ inF vs.length f = true ∧ normV vs f ≠ ⟨0, 0, 0⟩ := by
  unfold faceF
  by_cases h1 : inF vs.length f = true
  · rw [if_pos h1]
    by_cases h2 : normV vs f = ⟨0, 0, 0⟩
    · rw [if_pos h2]; simp [h2]
    · rw [if_neg h2]; simp [h1, h2]
  · rw [if_neg h1]; simp [h1]

def volS (vs : List V3) (fs : List Fc) : Int := (fs.map (partV vs)).sum

end Go.Proofs.YtbpkkgeedkegcaaGreatDoor

namespace Go.Bl
open Go Go.Proofs.YtbpkkgeedkegcaaGreatDoor

theorem perm_sum {l m : List Int} (h : l.Perm m) : l.sum = m.sum := by
  induction h with
  | nil => rfl
  | cons x _ ih => simp [ih]
  | swap x y l => simp only [List.sum_cons]; omega
  | trans _ _ ih1 ih2 => rw [ih1, ih2]

theorem sum_neg (l : List Sd) (g h : Sd → Int) (hg : ∀ s ∈ l, h s = - g s) : (l.map h).sum = - (l.map g).sum := by
  induction l with
  | nil => rfl
  | cons x l ih =>
    simp only [List.map_cons, List.sum_cons]
    rw [hg x (by simp), ih (fun s hs => hg s (List.mem_cons_of_mem _ hs))]; omega
/-- what is turned round with each side sums up to nothing over a closed mesh -/
theorem anti_sum (g : Sd → Int) {fs : List Fc} (hc : ClosedS fs) (hn : (allS fs).Nodup) (ha : ∀ s, g (rvS s) = - g s) : ((allS fs).map g).sum = 0 := by
  have hp : ((allS fs).map rvS).Perm (allS fs) := by
    rw [List.perm_ext_iff_of_nodup (nodup_map_on _ hn fun x _ y _ e => rvS_inj e) hn]
    intro s
    simp only [List.mem_map]
    constructor
    · rintro ⟨x, hx, rfl⟩; exact hc x hx
    · intro hs; exact ⟨rvS s, hc s hs, rvS_rvS s⟩
  have h1 := perm_sum (hp.map g)
  rw [List.map_map] at h1
  have h2 := sum_neg (allS fs) g (g ∘ rvS) (fun s _ => ha s)
  omega

def sum3 (g : Sd → Int) (f : Fc) : Int := g ⟨f.a, f.b⟩ + g ⟨f.b, f.c⟩ + g ⟨f.c, f.a⟩

theorem allS_sum (g : Sd → Int) (fs : List Fc) : ((allS fs).map g).sum = (fs.map (sum3 g)).sum := by
  induction fs with
  | nil => rfl
  | cons f l ih =>
    have e : allS (f :: l) = sdsOf f ++ allS l := rfl
    rw [e, List.map_append, List.sum_append, ih]
    simp only [sdsOf, List.map_cons, List.map_nil, List.sum_cons, List.sum_nil, sum3]; omega

theorem sum_add3 {F G : Fc → Int} (g : Sd → Int) {fs : List Fc} (h : ∀ f ∈ fs, F f = G f + sum3 g f) : (fs.map F).sum = (fs.map G).sum + (fs.map (sum3 g)).sum := by
  induction fs with
  | nil => rfl
  | cons f l ih =>
    simp only [List.map_cons, List.sum_cons]
    rw [h f (by simp), ih (fun x hx => h x (List.mem_cons_of_mem _ hx))]; omega
/-- two ways to sum up over the faces that differ by what is turned round with each side -/
theorem closed_same {F G : Fc → Int} (g : Sd → Int) {fs : List Fc} (hc : ClosedS fs) (hn : (allS fs).Nodup) (ha : ∀ s, g (rvS s) = - g s) (h : ∀ f ∈ fs, F f = G f + sum3 g f) : (fs.map F).sum = (fs.map G).sum := by
  rw [sum_add3 g h, ← allS_sum, anti_sum g hc hn ha]; omega

def plusV (t v : V3) : V3 := ⟨v.x + t.x, v.y + t.y, v.z + t.z⟩

theorem dot_plus (t a b c : V3) : dotV (plusV t a) (crossV (plusV t b) (plusV t c)) = dotV a (crossV b c) + (dotV t (crossV a b) + dotV t (crossV b c) + dotV t (crossV c a)) := by
  unfold dotV crossV plusV
  grind

theorem cross_anti (t a b : V3) : dotV t (crossV b a) = - dotV t (crossV a b) := by
  unfold dotV crossV
  grind

end Go.Bl
namespace Go.Proofs.YtbpkkgeedkegcaaGreatDoor
open Go Go.RowKit Go.Bl
/-- prisms down to the height 0 -/
def prismV (vs : List V3) (f : Fc) : Int := ((atV vs f.a).z + (atV vs f.b).z + (atV vs f.c).z) * (normV vs f).z

def edgeZ (a b : V3) : Int := (a.z + b.z) * (crossV a b).z

theorem edgeZ_anti (a b : V3) : edgeZ b a = - edgeZ a b := by
  unfold edgeZ crossV
  grind

theorem prism_eq (vs : List V3) (f : Fc) : prismV vs f = partV vs f + (edgeZ (atV vs f.a) (atV vs f.b) + edgeZ (atV vs f.b) (atV vs f.c) + edgeZ (atV vs f.c) (atV vs f.a)) := by
  unfold prismV partV edgeZ normV dotV crossV lessV
  grind

theorem prism_sum (vs : List V3) {fs : List Fc} (hc : ClosedS fs) (hn : (allS fs).Nodup) : (fs.map (prismV vs)).sum = volS vs fs :=
  closed_same (fun s => edgeZ (atV vs s.u) (atV vs s.v)) hc hn (fun s => edgeZ_anti _ _) (fun f _ => prism_eq vs f)

end Go.Proofs.YtbpkkgeedkegcaaGreatDoor

namespace Go.Proofs.YtbpkkgeedkegcaaGreatDoor
open Go Go.RowKit Go.Bl

theorem fcAt_get {fs : List Fc} {k : Nat} (h : k < fs.length) : fcAt fs k = fs[k] := by unfold fcAt; rw [List.getD_eq_getElem?_getD, List.getElem?_eq_getElem h, Option.getD_some]

theorem comp_closed {fs : List Fc} (hc : ClosedS fs) (i : Nat) : ClosedS ((compF fs i).map (fcAt fs)) := by
  intro s hs
  obtain ⟨f, hf, h1⟩ := List.mem_flatMap.1 hs
  obtain ⟨k, hk, rfl⟩ := List.mem_map.1 hf
  have hkr := mem_comp.1 hk
  have hkl := hkr.lt.2
  have hm : s ∈ allS fs := List.mem_flatMap.2 ⟨_, List.getElem_mem hkl, by rw [← fcAt_get hkl]; exact h1⟩
  obtain ⟨f2, hf2, h2⟩ := List.mem_flatMap.1 (hc s hm)
  obtain ⟨j, hj, rfl⟩ := List.getElem_of_mem hf2
  rw [← fcAt_get hj] at h2
  have ha : adjF fs k j := by
    have hk2 : ∀ {f : Fc} {s : Sd}, s ∈ sdsOf f → uSide s.u s.v ∈ keysF f := fun {f s} h => by
      simp only [sdsOf, List.mem_cons, List.not_mem_nil, or_false] at h
      simp only [keysF, List.mem_cons, List.not_mem_nil, or_false]
      rcases h with rfl | rfl | rfl
      · exact .inl rfl
      · exact .inr (.inl rfl)
      · exact .inr (.inr rfl)
    refine ⟨uSide s.u s.v, hk2 h1, ?_⟩
    have := hk2 h2
    rwa [show uSide (rvS s).u (rvS s).v = uSide s.u s.v by unfold uSide rvS; simp only [Int.min_comm, Int.max_comm]] at this
  exact List.mem_flatMap.2 ⟨_, List.mem_map.2 ⟨j, mem_comp.2 (.step hkr hj ha), rfl⟩, h2⟩

theorem allS_sub {a b : List Fc} (h : a.Sublist b) : (allS a).Sublist (allS b) := by
  induction h with
  | slnil => exact .slnil
  | cons x _ ih => exact ih.trans (List.sublist_append_right _ _)
  | cons_cons x _ ih => exact (List.Sublist.refl (sdsOf x)).append ih

theorem allS_sub_nodup {fs : List Fc} (hn : (allS fs).Nodup) {g : List Nat} (hg : ∀ k ∈ g, k < fs.length) (hs : g.Pairwise (· < ·)) : (allS (g.map (fcAt fs))).Nodup := by
  have hsub : (g.map (fcAt fs)).Sublist fs := by
    have h1 : g.Sublist (List.range fs.length) := by
      have e : g = (List.range fs.length).filter (fun k => decide (k ∈ g)) := by
        refine List.Perm.eq_of_pairwise (le := fun a b : Nat => a ≤ b) (fun a b _ _ h1 h2 => Nat.le_antisymm h1 h2) (hs.imp fun h => Nat.le_of_lt h) ((List.pairwise_lt_range.filter _).imp fun h => Nat.le_of_lt h) ?_
        refine (List.perm_ext_iff_of_nodup (hs.imp fun h => Nat.ne_of_lt h) (List.nodup_range.filter _)).2 fun k => ?_
        rw [List.mem_filter, List.mem_range, decide_eq_true_eq]
        exact ⟨fun h => ⟨hg k h, h⟩, fun h => h.2⟩
      rw [e]
      exact List.filter_sublist
    have h2 := h1.map (fcAt fs)
    have e : (List.range fs.length).map (fcAt fs) = fs := by
      apply List.ext_getElem
      · simp
      · intro k h1 h2
        simp only [List.getElem_map, List.getElem_range]
        exact fcAt_get h2
    rwa [e] at h2
  have : (allS (g.map (fcAt fs))).Sublist (allS fs) := by
    exact allS_sub hsub
  exact hn.sublist this

end Go.Proofs.YtbpkkgeedkegcaaGreatDoor
