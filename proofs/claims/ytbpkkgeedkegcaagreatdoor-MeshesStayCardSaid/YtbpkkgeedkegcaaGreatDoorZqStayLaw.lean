/- Contracts of functions that this seat's laws reach, each: what one call returns and what it leaves in memory; no condition beyond each theorem's own hypotheses. -/
import Derived.Test.YtbpkkgeedkegcaaGreatDoorZqShellSub
import Derived.Test.YtbpkkgeedkegcaaGreatDoorZqGpLib
import Derived.Test.YtbpkkgeedkegcaaGreatDoorZqMeshCD
import Derived.Test.YtbpkkgeedkegcaaGreatDoorZqMeshTE
import Derived.Test.YtbpkkgeedkegcaaGreatDoorZqMeshTC
set_option linter.unusedVariables false
set_option linter.unusedSimpArgs false
namespace Go.Proofs.YtbpkkgeedkegcaaGreatDoor
open Go Go.RowKit Go.Bl

section
variable (vs : List V3) (P : List Fc)
/-- the new number of a vertex -/
def newI (i : Int) : Int := rkI vs (useL vs.length P) i.toNat

def newS (s : Sd) : Sd := ⟨newI vs P s.u, newI vs P s.v⟩

/-- a vertex of a face -/
def VtP (i : Int) : Prop := inI vs.length i = true ∧ ∃ f ∈ P, i = f.a ∨ i = f.b ∨ i = f.c
variable {vs P}

theorem VtP.used {i : Int} (h : VtP vs P i) : i.toNat < vs.length ∧ 0 ≤ i ∧ (useL vs.length P).getD i.toNat false = true := by
  obtain ⟨h1, f, hf, h2⟩ := h
  unfold inI at h1
  simp only [Bool.and_eq_true, decide_eq_true_eq] at h1
  have hl : i.toNat < vs.length := by omega
  refine ⟨hl, h1.1, useL_hit hf hl ?_⟩
  rcases h2 with rfl | rfl | rfl
  · left; omega
  · right; left; omega
  · right; right; omega

theorem VtP.new {i : Int} (h : VtP vs P i) : inI (keepTo vs (useL vs.length P) vs.length).length (newI vs P i) = true ∧ atV (keepTo vs (useL vs.length P) vs.length) (newI vs P i) = atV vs i := by
  obtain ⟨h1, h2, h3⟩ := h.used
  obtain ⟨k1, k2, k3⟩ := keepTo_get vs _ vs.length (Nat.le_refl _) _ h1 h3
  have e : (newI vs P i).toNat = (keepTo vs (useL vs.length P) i.toNat).length := by unfold newI rkI; omega
  constructor
  · unfold inI newI rkI
    simp only [Bool.and_eq_true, decide_eq_true_eq]
    omega
  · unfold atV
    rw [e, List.getD_eq_getElem?_getD, List.getElem?_eq_getElem k1, Option.getD_some, k3, List.getD_eq_getElem?_getD, List.getElem?_eq_getElem h1, Option.getD_some]

theorem VtP.lt {i j : Int} (hi : VtP vs P i) (hj : VtP vs P j) (h : i < j) : newI vs P i < newI vs P j := by
  obtain ⟨h1, h2, h3⟩ := hi.used
  obtain ⟨h4, h5, h6⟩ := hj.used
  obtain ⟨k1, -, -⟩ := keepTo_get vs (useL vs.length P) j.toNat (by omega) i.toNat (by omega) h3
  unfold newI rkI; omega

theorem VtP.inj {i j : Int} (hi : VtP vs P i) (hj : VtP vs P j) (h : newI vs P i = newI vs P j) : i = j := by
  rcases Int.lt_trichotomy i j with h1 | h1 | h1
  · have := hi.lt hj h1; omega
  · exact h1
  · have := hj.lt hi h1; omega

theorem vt_face (hin : ∀ f ∈ P, inF vs.length f = true) {f : Fc} (hf : f ∈ P) : VtP vs P f.a ∧ VtP vs P f.b ∧ VtP vs P f.c := by
  have h := hin f hf
  unfold inF at h
  simp only [Bool.and_eq_true] at h
  exact ⟨⟨h.1.1, f, hf, .inl rfl⟩, ⟨h.1.2, f, hf, .inr (.inl rfl)⟩, ⟨h.2, f, hf, .inr (.inr rfl)⟩⟩

theorem vt_side (hin : ∀ f ∈ P, inF vs.length f = true) {s : Sd} (hs : s ∈ allS P) : VtP vs P s.u ∧ VtP vs P s.v := by
  obtain ⟨f, hf, h⟩ := List.mem_flatMap.1 hs
  obtain ⟨h1, h2, h3⟩ := vt_face hin hf
  simp only [sdsOf, List.mem_cons, List.not_mem_nil, or_false] at h
  rcases h with rfl | rfl | rfl
  · exact ⟨h1, h2⟩
  · exact ⟨h2, h3⟩
  · exact ⟨h3, h1⟩

theorem allS_renum : ∀ Q : List Fc, allS (Q.map (renum vs (useL vs.length P))) = (allS Q).map (newS vs P)
  | [] => rfl
  | f :: Q => by
    have e : allS ((f :: Q).map (renum vs (useL vs.length P))) = sdsOf (renum vs (useL vs.length P) f) ++ allS (Q.map (renum vs (useL vs.length P))) := rfl
    have e2 : allS (f :: Q) = sdsOf f ++ allS Q := rfl
    rw [e, e2, List.map_append, allS_renum Q]
    rfl
/-- a part of a right mesh without its other vertices is right -/
theorem trim_ok (hv : vs.length ≤ 1000) (hfar : vs.any farV = false) (h0 : P ≠ []) (hl : P.length ≤ 1000) (hface : ∀ f ∈ P, faceF vs f = 0) (hn : (allS P).Nodup) : meshF (trimM ⟨vs, P⟩) = 0 := by
  have hin : ∀ f ∈ P, inF vs.length f = true := fun f hf => (faceF_iff.1 (hface f hf)).1
  refine meshOk.2 ⟨by simpa using h0, Nat.le_trans (keepTo_len _ _ _) hv, by rw [List.length_map]; exact hl, ?_, fun f hf => ?_, ?_⟩
  · rw [Bool.eq_false_iff, Ne, List.any_eq_true]
    rintro ⟨v, hv1, hv2⟩
    obtain ⟨i, hi, -, -, rfl⟩ := (keepTo_mem vs _ vs.length (Nat.le_refl _) v).1 hv1
    rw [Bool.eq_false_iff, Ne, List.any_eq_true] at hfar
    exact hfar ⟨_, List.getElem_mem _, hv2⟩
  · obtain ⟨g, hg, rfl⟩ := List.mem_map.1 hf
    obtain ⟨h1, h2, h3⟩ := vt_face hin hg
    have e := (faceF_iff.1 (hface g hg)).2
    refine faceF_iff.2 ⟨?_, ?_⟩
    · unfold inF
      simp only [Bool.and_eq_true]
      exact ⟨⟨h1.new.1, h2.new.1⟩, h3.new.1⟩
    · unfold normV at e ⊢
      show crossV (lessV (atV _ (newI vs P g.b)) (atV _ (newI vs P g.a))) (lessV (atV _ (newI vs P g.c)) (atV _ (newI vs P g.a))) ≠ _
      rw [h1.new.2, h2.new.2, h3.new.2]
      exact e
  · show (allS (P.map (renum vs (useL vs.length P)))).Nodup
    rw [allS_renum]
    refine nodup_map_on _ hn fun x hx y hy e => ?_
    obtain ⟨x1, x2⟩ := vt_side hin hx
    obtain ⟨y1, y2⟩ := vt_side hin hy
    unfold newS at e
    simp only [Sd.mk.injEq] at e
    have a1 := x1.inj y1 e.1
    have a2 := x2.inj y2 e.2
    cases x; cases y
    simp only at a1 a2
    rw [a1, a2]

end

/-- the faces of a group -/
theorem pick_get {fs : List Fc} {g : List Nat} (hg : ∀ k ∈ g, k < fs.length) : pickF fs (gi g) = g.map (fcAt fs) := by
  unfold pickF gi
  rw [List.map_map]
  refine List.map_congr_left fun k hk => ?_
  have := hg k hk
  simp only [Function.comp_apply, Int.toNat_natCast]
  rw [fcAt_get this, List.getD_eq_getElem?_getD, List.getElem?_eq_getElem this, Option.getD_some]
theorem ffF_ok {n : Nat} : ∀ {L seen : List Int}, (∀ i ∈ L, 0 ≤ i ∧ i < n) → (seen ++ L).Nodup → ffF n seen L = 0
  | [], _, _, _ => rfl
  | k :: r, seen, h, hn => by
    have hk := h k (List.mem_cons_self ..)
    unfold ffF
    rw [if_neg (by omega), if_neg ?_]
    · exact ffF_ok (fun i hi => h i (List.mem_cons_of_mem _ hi)) (by rw [List.append_assoc]; exact hn)
    · unfold memB
      intro hm
      have hm : k ∈ seen := by simpa using hm
      exact (List.nodup_append.1 hn).2.2 k hm k (List.mem_cons_self ..) rfl

end Go.Proofs.YtbpkkgeedkegcaaGreatDoor

namespace Go.Proofs.YtbpkkgeedkegcaaGreatDoor
open Go Go.RowKit Go.Bl

theorem face_dist {vs : List V3} {f : Fc} (h : faceF vs f = 0) : f.a ≠ f.b ∧ f.b ≠ f.c ∧ f.a ≠ f.c := by
  have h2 := (faceF_iff.1 h).2
  refine ⟨fun e => h2 ?_, fun e => h2 ?_, fun e => h2 ?_⟩
  · unfold normV; rw [e]; unfold crossV lessV; simp
  · unfold normV; rw [e]; unfold crossV lessV; simp only [V3.mk.injEq]; grind
  · unfold normV; rw [e]; unfold crossV lessV; simp

theorem closed_two {vs : List V3} {fs : List Fc} (hM : meshF ⟨vs, fs⟩ = 0) (hc : ClosedS fs) : 2 ≤ fs.length := by
  have hok := meshOk.1 hM
  match fs, hok.some, hc, hok.face with
  | [], h, _, _ => exact absurd rfl h
  | [f], _, hc, hf =>
    obtain ⟨h1, h2, h3⟩ := face_dist (hf f (List.mem_cons_self ..))
    have h4 := hc ⟨f.a, f.b⟩ (by simp [allS, sdsOf])
    simp only [allS, sdsOf, rvS, List.flatMap_cons, List.flatMap_nil, List.append_nil, List.mem_cons, List.not_mem_nil, or_false, Sd.mk.injEq] at h4
    omega
  | _ :: _ :: _, _, _, _ => simp

theorem atV_left {a b : List V3} {i : Int} (h : inI a.length i = true) : atV (a ++ b) i = atV a i := by
  unfold inI at h
  simp only [Bool.and_eq_true, decide_eq_true_eq] at h
  unfold atV
  simp only [List.getD_eq_getElem?_getD, List.getElem?_append_left (show i.toNat < a.length by omega)]

theorem atV_right {a b : List V3} {i : Int} (h : inI b.length i = true) : atV (a ++ b) (i + a.length) = atV b i := by
  unfold inI at h
  simp only [Bool.and_eq_true, decide_eq_true_eq] at h
  have e : (i + a.length).toNat = i.toNat + a.length := by omega
  unfold atV
  rw [e]
  simp only [List.getD_eq_getElem?_getD, List.getElem?_append_right (show a.length ≤ i.toNat + a.length by omega), Nat.add_sub_cancel]

theorem face_left {a b : List V3} {f : Fc} (h : faceF a f = 0) : faceF (a ++ b) f = 0 := by
  obtain ⟨h1, h2⟩ := faceF_iff.1 h
  have h3 := h1
  unfold inF at h3
  simp only [Bool.and_eq_true] at h3
  refine faceF_iff.2 ⟨?_, ?_⟩
  · unfold inF inI at h1 ⊢
    simp only [Bool.and_eq_true, decide_eq_true_eq, List.length_append] at h1 ⊢
    omega
  · unfold normV at h2 ⊢
    rw [atV_left h3.1.1, atV_left h3.1.2, atV_left h3.2]; exact h2

theorem face_right {a b : List V3} {f : Fc} (h : faceF b f = 0) : faceF (a ++ b) (shF a.length f) = 0 := by
  obtain ⟨h1, h2⟩ := faceF_iff.1 h
  have h3 := h1
  unfold inF at h3
  simp only [Bool.and_eq_true] at h3
  refine faceF_iff.2 ⟨?_, ?_⟩
  · unfold inF inI shF at *
    simp only [Bool.and_eq_true, decide_eq_true_eq, List.length_append] at h1 ⊢
    omega
  · unfold normV shF at *
    simp only
    rw [atV_right h3.1.1, atV_right h3.1.2, atV_right h3.2]; exact h2

theorem allS_sh (n : Nat) : ∀ fs : List Fc, allS (fs.map (shF n)) = (allS fs).map fun s => ⟨s.u + n, s.v + n⟩
  | [] => rfl
  | f :: fs => by
    have e : allS ((f :: fs).map (shF n)) = sdsOf (shF n f) ++ allS (fs.map (shF n)) := rfl
    have e2 : allS (f :: fs) = sdsOf f ++ allS fs := rfl
    rw [e, e2, List.map_append, allS_sh n fs]; rfl

theorem side_in {vs : List V3} {fs : List Fc} (hin : ∀ f ∈ fs, inF vs.length f = true) {s : Sd} (hs : s ∈ allS fs) : 0 ≤ s.u ∧ s.u < vs.length := by
  obtain ⟨f, hf, h⟩ := List.mem_flatMap.1 hs
  have h1 := hin f hf
  unfold inF inI at h1
  simp only [Bool.and_eq_true, decide_eq_true_eq] at h1
  simp only [sdsOf, List.mem_cons, List.not_mem_nil, or_false] at h
  rcases h with rfl | rfl | rfl <;> simp only <;> omega

theorem join_ok {vs : List V3} {fs : List Fc} (hM : meshF ⟨vs, fs⟩ = 0) (hv : vs.length ≤ 500) (hf : fs.length ≤ 500) : meshF (joinM ⟨vs, fs⟩ ⟨vs, fs⟩) = 0 := by
  have hok := meshOk.1 hM
  have hin : ∀ f ∈ fs, inF vs.length f = true := fun f hf => (faceF_iff.1 (hok.face f hf)).1
  unfold joinM
  simp only
  refine meshOk.2 ⟨by have := hok.some; simp [this], by rw [List.length_append]; omega, by rw [List.length_append, List.length_map]; omega, ?_, fun f hf => ?_, ?_⟩
  · rw [List.any_append, hok.near]; rfl
  · rcases List.mem_append.1 hf with hf | hf
    · exact face_left (hok.face f hf)
    · obtain ⟨g, hg, rfl⟩ := List.mem_map.1 hf
      exact face_right (hok.face g hg)
  · rw [allS_append, allS_sh]
    refine List.nodup_append.2 ⟨hok.once, nodup_map_on _ hok.once fun x _ y _ e => ?_, fun x hx y hy e => ?_⟩
    · simp only [Sd.mk.injEq] at e
      cases x; cases y
      simp only [Sd.mk.injEq] at e ⊢
      omega
    · obtain ⟨z, hz, rfl⟩ := List.mem_map.1 hy
      have h1 := side_in hin hx
      have h2 := side_in hin hz
      rw [e] at h1
      simp only at h1
      omega

theorem part_two {vs : List V3} {fs : List Fc} (hM : meshF ⟨vs, fs⟩ = 0) (h2 : 2 ≤ fs.length) : partE vs fs [(fs.length : Int) - 1, 0] = 0 ∧ ∃ m : MeshV, partR vs fs [(fs.length : Int) - 1, 0] = m ∧ m.vs.length ≤ 1000 ∧ m.fs.length = 2 := by
  have hok := meshOk.1 hM
  have hb : ∀ k ∈ [0, fs.length - 1], k < fs.length := fun k hk => by
    simp only [List.mem_cons, List.not_mem_nil, or_false] at hk
    rcases hk with rfl | rfl <;> omega
  have hn := allS_sub_nodup hok.once hb (by simp; omega)
  have hP : pickF fs [(fs.length : Int) - 1, 0] = [fcAt fs (fs.length - 1), fcAt fs 0] := by
    have e : [(fs.length : Int) - 1, 0] = gi [fs.length - 1, 0] := by simp [gi]; omega
    rw [e, pick_get (by intro k hk; exact hb k (by simp only [List.mem_cons, List.not_mem_nil, or_false] at hk ⊢; omega))]; rfl
  have hn2 : (allS [fcAt fs (fs.length - 1), fcAt fs 0]).Nodup := (allS_perm (List.Perm.swap _ _ _)).nodup_iff.1 hn
  have hface : ∀ f ∈ [fcAt fs (fs.length - 1), fcAt fs 0], faceF vs f = 0 := fun f hf => by
    simp only [List.mem_cons, List.not_mem_nil, or_false] at hf
    rcases hf with rfl | rfl
    · rw [fcAt_get (show fs.length - 1 < fs.length by omega)]; exact hok.face _ (List.getElem_mem _)
    · rw [fcAt_get (show 0 < fs.length by omega)]; exact hok.face _ (List.getElem_mem _)
  have hT := trim_ok hok.vl hok.near (P := [fcAt fs (fs.length - 1), fcAt fs 0]) (by simp) (by simp) hface hn2
  have hpm : partM vs fs [(fs.length : Int) - 1, 0] = trimM ⟨vs, [fcAt fs (fs.length - 1), fcAt fs 0]⟩ := by unfold partM; rw [hP]
  have hfe : facesErr fs.length [(fs.length : Int) - 1, 0] = 0 := by
    unfold facesErr
    rw [if_neg (by simp)]
    refine ffF_ok (fun j hj => ?_) (by rw [List.nil_append]; simp; omega)
    simp only [List.mem_cons, List.not_mem_nil, or_false] at hj
    rcases hj with rfl | rfl <;> omega
  refine ⟨?_, trimM ⟨vs, [fcAt fs (fs.length - 1), fcAt fs 0]⟩, ?_, Nat.le_trans (keepTo_len _ _ _) hok.vl, rfl⟩
  · unfold partE
    rw [if_neg (by simpa using hM), if_neg (by simpa using hfe), hpm]; exact hT
  · unfold partR
    rw [if_neg (by simpa using hM), if_neg (by simpa using hfe), hpm]; exact if_pos hT

end Go.Proofs.YtbpkkgeedkegcaaGreatDoor
