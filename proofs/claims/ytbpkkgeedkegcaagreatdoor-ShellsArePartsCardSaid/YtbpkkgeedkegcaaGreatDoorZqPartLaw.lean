/- Contracts of functions that this seat's laws reach, each: what one call returns and what it leaves in memory; no condition beyond each theorem's own hypotheses. -/
import Derived.Test.YtbpkkgeedkegcaaGreatDoorZqShellSub
import Derived.Test.YtbpkkgeedkegcaaGreatDoorZqGpLib
import Derived.Test.YtbpkkgeedkegcaaGreatDoorZqMeshCD
import Derived.Test.YtbpkkgeedkegcaaGreatDoorZqMeshCJ
set_option linter.unusedVariables false
set_option linter.unusedSimpArgs false
namespace Go.Proofs.YtbpkkgeedkegcaaGreatDoor
open Go Go.RowKit Go.Bl

section
variable (vs : List V3) (P : List Fc)
/-- the new number of a vertex -/
def newI (i : Int) : Int := rkI vs (useL vs.length P) i.toNat

def newS (s : Sd) : Sd := ⟨newI vs P s.u, newI vs P s.v⟩

theorem renum_eq (f : Fc) : renum vs (useL vs.length P) f = ⟨newI vs P f.a, newI vs P f.b, newI vs P f.c⟩ := rfl

theorem keepTo_mono (U : List Bool) {i j : Nat} (h : i ≤ j) : (keepTo vs U i).length ≤ (keepTo vs U j).length := by
  induction j with
  | zero => rw [show i = 0 by omega]; exact Nat.le_refl _
  | succ j ih =>
    by_cases e : i = j + 1
    · rw [e]; exact Nat.le_refl _
    · have := ih (by omega)
      rw [show keepTo vs U (j + 1) = keepTo vs U j ++ (if U.getD j false then [vs.getD j default] else []) from rfl, List.length_append]; omega

theorem newI_mono {i j : Int} (h : i ≤ j) : newI vs P i ≤ newI vs P j := by
  have := keepTo_mono vs (useL vs.length P) (i := i.toNat) (j := j.toNat) (by omega)
  unfold newI rkI; omega
/-- a vertex of a face -/
def VtP (i : Int) : Prop := inI vs.length i = true ∧ ∃ f ∈ P, i = f.a ∨ i = f.b ∨ i = f.c
variable {vs P}

theorem VtP.used {i : Int} (h : VtP vs P i) : i.toNat < vs.length ∧ 0 ≤ i ∧ (useL vs.length P).getD i.toNat false = true := by
  obtain ⟨h1, f, hf, h2⟩ := h
  unfold inI at h1
  simp only [Bool.and_eq_true, decide_eq_true_eq] at h1
  have hl : i.toNat < vs.length := by omega
  refine ⟨hl, h1.1, useL_hit hf hl ?_⟩
  rcases h2 with rfl | rfl | rfl
  · left; omega
  · right; left; omega
  · right; right; omega

theorem VtP.new {i : Int} (h : VtP vs P i) : inI (keepTo vs (useL vs.length P) vs.length).length (newI vs P i) = true ∧ atV (keepTo vs (useL vs.length P) vs.length) (newI vs P i) = atV vs i := by
  obtain ⟨h1, h2, h3⟩ := h.used
  obtain ⟨k1, k2, k3⟩ := keepTo_get vs _ vs.length (Nat.le_refl _) _ h1 h3
  have e : (newI vs P i).toNat = (keepTo vs (useL vs.length P) i.toNat).length := by unfold newI rkI; omega
  constructor
  · unfold inI newI rkI
    simp only [Bool.and_eq_true, decide_eq_true_eq]
    omega
  · unfold atV
    rw [e, List.getD_eq_getElem?_getD, List.getElem?_eq_getElem k1, Option.getD_some, k3, List.getD_eq_getElem?_getD, List.getElem?_eq_getElem h1, Option.getD_some]

theorem VtP.lt {i j : Int} (hi : VtP vs P i) (hj : VtP vs P j) (h : i < j) : newI vs P i < newI vs P j := by
  obtain ⟨h1, h2, h3⟩ := hi.used
  obtain ⟨h4, h5, h6⟩ := hj.used
  obtain ⟨k1, -, -⟩ := keepTo_get vs (useL vs.length P) j.toNat (by omega) i.toNat (by omega) h3
  unfold newI rkI; omega

theorem VtP.inj {i j : Int} (hi : VtP vs P i) (hj : VtP vs P j) (h : newI vs P i = newI vs P j) : i = j := by
  rcases Int.lt_trichotomy i j with h1 | h1 | h1
  · have := hi.lt hj h1; omega
  · exact h1
  · have := hj.lt hi h1; omega

theorem vt_face (hin : ∀ f ∈ P, inF vs.length f = true) {f : Fc} (hf : f ∈ P) : VtP vs P f.a ∧ VtP vs P f.b ∧ VtP vs P f.c := by
  have h := hin f hf
  unfold inF at h
  simp only [Bool.and_eq_true] at h
  exact ⟨⟨h.1.1, f, hf, .inl rfl⟩, ⟨h.1.2, f, hf, .inr (.inl rfl)⟩, ⟨h.2, f, hf, .inr (.inr rfl)⟩⟩

theorem vt_side (hin : ∀ f ∈ P, inF vs.length f = true) {s : Sd} (hs : s ∈ allS P) : VtP vs P s.u ∧ VtP vs P s.v := by
  obtain ⟨f, hf, h⟩ := List.mem_flatMap.1 hs
  obtain ⟨h1, h2, h3⟩ := vt_face hin hf
  simp only [sdsOf, List.mem_cons, List.not_mem_nil, or_false] at h
  rcases h with rfl | rfl | rfl
  · exact ⟨h1, h2⟩
  · exact ⟨h2, h3⟩
  · exact ⟨h3, h1⟩

theorem allS_renum : ∀ Q : List Fc, allS (Q.map (renum vs (useL vs.length P))) = (allS Q).map (newS vs P)
  | [] => rfl
  | f :: Q => by
    have e : allS ((f :: Q).map (renum vs (useL vs.length P))) = sdsOf (renum vs (useL vs.length P) f) ++ allS (Q.map (renum vs (useL vs.length P))) := rfl
    have e2 : allS (f :: Q) = sdsOf f ++ allS Q := rfl
    rw [e, e2, List.map_append, allS_renum Q]
    rfl
/-- a part of a right mesh without its other vertices is right -/
theorem trim_ok (hv : vs.length ≤ 1000) (hfar : vs.any farV = false) (h0 : P ≠ []) (hl : P.length ≤ 1000) (hface : ∀ f ∈ P, faceF vs f = 0) (hn : (allS P).Nodup) : meshF (trimM ⟨vs, P⟩) = 0 := by
  have hin : ∀ f ∈ P, inF vs.length f = true := fun f hf => (faceF_iff.1 (hface f hf)).1
  refine meshOk.2 ⟨by simpa using h0, Nat.le_trans (keepTo_len _ _ _) hv, by rw [List.length_map]; exact hl, ?_, fun f hf => ?_, ?_⟩
  · rw [Bool.eq_false_iff, Ne, List.any_eq_true]
    rintro ⟨v, hv1, hv2⟩
    obtain ⟨i, hi, -, -, rfl⟩ := (keepTo_mem vs _ vs.length (Nat.le_refl _) v).1 hv1
    rw [Bool.eq_false_iff, Ne, List.any_eq_true] at hfar
    exact hfar ⟨_, List.getElem_mem _, hv2⟩
  · obtain ⟨g, hg, rfl⟩ := List.mem_map.1 hf
    obtain ⟨h1, h2, h3⟩ := vt_face hin hg
    have e := (faceF_iff.1 (hface g hg)).2
    refine faceF_iff.2 ⟨?_, ?_⟩
    · unfold inF
      simp only [Bool.and_eq_true]
      exact ⟨⟨h1.new.1, h2.new.1⟩, h3.new.1⟩
    · unfold normV at e ⊢
      show crossV (lessV (atV _ (newI vs P g.b)) (atV _ (newI vs P g.a))) (lessV (atV _ (newI vs P g.c)) (atV _ (newI vs P g.a))) ≠ _
      rw [h1.new.2, h2.new.2, h3.new.2]
      exact e
  · show (allS (P.map (renum vs (useL vs.length P)))).Nodup
    rw [allS_renum]
    refine nodup_map_on _ hn fun x hx y hy e => ?_
    obtain ⟨x1, x2⟩ := vt_side hin hx
    obtain ⟨y1, y2⟩ := vt_side hin hy
    unfold newS at e
    simp only [Sd.mk.injEq] at e
    have a1 := x1.inj y1 e.1
    have a2 := x2.inj y2 e.2
    cases x; cases y
    simp only at a1 a2
    rw [a1, a2]

theorem trim_closed (hc : ClosedS P) : ClosedS (trimM ⟨vs, P⟩).fs := by
  intro s hs
  have hs' : s ∈ allS (P.map (renum vs (useL vs.length P))) := hs
  show rvS s ∈ allS (P.map (renum vs (useL vs.length P)))
  rw [allS_renum] at hs' ⊢
  obtain ⟨x, hx, rfl⟩ := List.mem_map.1 hs'
  exact List.mem_map.2 ⟨rvS x, hc x hx, rfl⟩

theorem trim_vol (hin : ∀ f ∈ P, inF vs.length f = true) : volS (trimM ⟨vs, P⟩).vs (trimM ⟨vs, P⟩).fs = (P.map (partV vs)).sum := by
  unfold volS
  show ((P.map (renum vs (useL vs.length P))).map _).sum = _
  rw [List.map_map]
  congr 1
  refine List.map_congr_left fun f hf => ?_
  obtain ⟨h1, h2, h3⟩ := vt_face hin hf
  show partV _ (renum vs (useL vs.length P) f) = _
  unfold partV
  show dotV (atV (keepTo vs (useL vs.length P) vs.length) (newI vs P f.a)) (crossV (atV (keepTo vs (useL vs.length P) vs.length) (newI vs P f.b)) (atV (keepTo vs (useL vs.length P) vs.length) (newI vs P f.c))) = _
  rw [h1.new.2, h2.new.2, h3.new.2]

theorem new_u (x y : Int) : uSide (newI vs P x) (newI vs P y) = newS vs P (uSide x y) := by
  unfold uSide newS
  rcases Int.le_total x y with h | h
  · have := newI_mono vs P h
    simp only [Int.min_eq_left h, Int.max_eq_right h, Int.min_eq_left this, Int.max_eq_right this]
  · have := newI_mono vs P h
    simp only [Int.min_eq_right h, Int.max_eq_left h, Int.min_eq_right this, Int.max_eq_left this]

theorem keys_renum (f : Fc) : keysF (renum vs (useL vs.length P) f) = (keysF f).map (newS vs P) := by
  unfold keysF
  simp only [List.map_cons, List.map_nil, renum_eq, new_u]
end

/-- the faces of a group -/
theorem pick_get {fs : List Fc} {g : List Nat} (hg : ∀ k ∈ g, k < fs.length) : pickF fs (gi g) = g.map (fcAt fs) := by
  unfold pickF gi
  rw [List.map_map]
  refine List.map_congr_left fun k hk => ?_
  have := hg k hk
  simp only [Function.comp_apply, Int.toNat_natCast]
  rw [fcAt_get this, List.getD_eq_getElem?_getD, List.getElem?_eq_getElem this, Option.getD_some]
/-- all faces that hang together with one another in a list: one group -/
theorem one_shell {Q : List Fc} (h0 : Q ≠ []) (h : ∀ k, k < Q.length → Bl.Reach Q 0 k) : (shellsF Q).length = 1 := by
  have hn : 0 < Q.length := List.length_pos_iff.2 h0
  have : (List.range Q.length).filter (leastF Q) = [0] := by
    have e : List.range Q.length = 0 :: (List.range (Q.length - 1)).map (· + 1) := by
      rw [← List.range_succ_eq_map]; congr 1; omega
    rw [e, List.filter_cons]
    have h1 : leastF Q 0 = true := by rw [least_done, done_zero]; rfl
    rw [h1, if_pos rfl]
    congr 1
    rw [List.filter_eq_nil_iff]
    intro k hk
    obtain ⟨j, hj, rfl⟩ := List.mem_map.1 hk
    rw [List.mem_range] at hj
    rw [least_done, show doneF Q (j + 1) (j + 1) = true from done_iff.2 ⟨0, by omega, h _ (by omega)⟩]
    decide
  unfold shellsF shellsTo
  rw [List.length_map, this]; rfl

theorem nodup_at {l : List Nat} (h : l.Nodup) {a b : Nat} (ha : a < l.length) (hb : b < l.length) (e : l[a] = l[b]) : a = b := by
  rcases Nat.lt_trichotomy a b with h1 | h1 | h1
  · exact absurd e (List.pairwise_iff_getElem.1 h a b ha hb h1)
  · exact h1
  · exact absurd e.symm (List.pairwise_iff_getElem.1 h b a hb ha h1)

theorem shell_one (vs : List V3) {fs : List Fc} {i : Nat} (hi : i < fs.length) : (shellsF (trimM ⟨vs, (compF fs i).map (fcAt fs)⟩).fs).length = 1 := by
  obtain ⟨P, hP⟩ : ∃ P, P = (compF fs i).map (fcAt fs) := ⟨_, rfl⟩
  rw [← hP]
  obtain ⟨Q, hQ⟩ : ∃ Q, Q = P.map (renum vs (useL vs.length P)) := ⟨_, rfl⟩
  show (shellsF (P.map (renum vs (useL vs.length P)))).length = 1
  rw [← hQ]
  have hlP : P.length = (compF fs i).length := by rw [hP, List.length_map]
  have hlQ : Q.length = (compF fs i).length := by rw [hQ, List.length_map, hlP]
  have hkey : ∀ a (ha : a < (compF fs i).length), keysF (fcAt Q a) = (keysF (fcAt fs (compF fs i)[a])).map (newS vs P) := fun a ha => by
    rw [fcAt_get (show a < Q.length by omega)]
    simp only [hQ, List.getElem_map]
    rw [keys_renum]
    congr 2
    simp only [hP, List.getElem_map]
  have hadj : ∀ a b (ha : a < (compF fs i).length) (hb : b < (compF fs i).length), adjF fs (compF fs i)[a] (compF fs i)[b] → adjF Q a b := fun a b ha hb ⟨s, h1, h2⟩ => by
    refine ⟨newS vs P s, ?_, ?_⟩
    · rw [hkey a ha]; exact List.mem_map.2 ⟨s, h1, rfl⟩
    · rw [hkey b hb]; exact List.mem_map.2 ⟨s, h2, rfl⟩
  obtain ⟨a0, ha0, e0⟩ := List.getElem_of_mem (mem_comp.2 (Bl.Reach.refl (F := fs) i hi))
  have hall : ∀ x, Bl.Reach fs i x → ∀ b (hb : b < (compF fs i).length), (compF fs i)[b] = x → Bl.Reach Q a0 b := by
    intro x hx
    induction hx with
    | refl h =>
      intro b hb e
      have : b = a0 := nodup_at (comp_nodup fs i) hb ha0 (e.trans e0.symm)
      subst this
      exact .refl _ (by omega)
    | step h1 h2 h3 ih =>
      intro b hb e
      obtain ⟨a, ha, e1⟩ := List.getElem_of_mem (mem_comp.2 h1)
      exact .step (ih a ha e1) (by omega) (hadj a b ha hb (by rw [e1, e]; exact h3))
  have hto : ∀ b, b < Q.length → Bl.Reach Q a0 b := fun b hb => hall _ (mem_comp.1 (List.getElem_mem (show b < (compF fs i).length by omega))) b (by omega) rfl
  refine one_shell (fun e => ?_) (fun k hk => (hto 0 (by omega)).symm.trans (hto k hk))
  rw [e] at hlQ
  simp at hlQ
  omega

theorem ffF_ok {n : Nat} : ∀ {L seen : List Int}, (∀ i ∈ L, 0 ≤ i ∧ i < n) → (seen ++ L).Nodup → ffF n seen L = 0
  | [], _, _, _ => rfl
  | k :: r, seen, h, hn => by
    have hk := h k (List.mem_cons_self ..)
    unfold ffF
    rw [if_neg (by omega), if_neg ?_]
    · exact ffF_ok (fun i hi => h i (List.mem_cons_of_mem _ hi)) (by rw [List.append_assoc]; exact hn)
    · unfold memB
      intro hm
      have hm : k ∈ seen := by simpa using hm
      exact (List.nodup_append.1 hn).2.2 k hm k (List.mem_cons_self ..) rfl

theorem gi_nodup {g : List Nat} (h : g.Nodup) : (gi g).Nodup := by
  unfold gi
  exact nodup_map_on _ h fun x _ y _ e => by omega
/-- the part of a shell -/
theorem part_shell {vs : List V3} {fs : List Fc} (hM : meshF ⟨vs, fs⟩ = 0) (hc : ClosedS fs) {g : List Nat} (hg : g ∈ shellsF fs) :
    ∃ m : MeshV, partE vs fs (gi g) = 0 ∧ partR vs fs (gi g) = m ∧ meshF m = 0 ∧ openS m.fs = [] ∧ m.fs.length = g.length ∧ volS m.vs m.fs = (g.map fun k => partV vs (fcAt fs k)).sum ∧ (shellsF m.fs).length = 1 ∧ g.Pairwise (· < ·) ∧ g ≠ [] := by
  unfold shellsF shellsTo at hg
  obtain ⟨i, hi, rfl⟩ := List.mem_map.1 hg
  have hil : i < fs.length := List.mem_range.1 (List.mem_filter.1 hi).1
  have hok := meshOk.1 hM
  have hb : ∀ k ∈ compF fs i, k < fs.length := fun k hk => (mem_comp.1 hk).lt.2
  have hne : compF fs i ≠ [] := List.ne_nil_of_mem (mem_comp.2 (Bl.Reach.refl i hil))
  have hlen := nodup_bound (comp_nodup fs i) hb
  have hfl := hok.fl
  have hface : ∀ f ∈ (compF fs i).map (fcAt fs), faceF vs f = 0 := fun f hf => by
    obtain ⟨k, hk, rfl⟩ := List.mem_map.1 hf
    rw [fcAt_get (hb k hk)]
    exact hok.face _ (List.getElem_mem _)
  have hin : ∀ f ∈ (compF fs i).map (fcAt fs), inF vs.length f = true := fun f hf => (faceF_iff.1 (hface f hf)).1
  have hT := trim_ok hok.vl hok.near (P := (compF fs i).map (fcAt fs)) (by simpa using hne) (by rw [List.length_map]; omega) hface (allS_sub_nodup hok.once hb (comp_sorted fs i))
  have hpm : partM vs fs (gi (compF fs i)) = trimM ⟨vs, (compF fs i).map (fcAt fs)⟩ := by unfold partM; rw [pick_get hb]
  have hfe : facesErr fs.length (gi (compF fs i)) = 0 := by
    unfold facesErr
    rw [if_neg (by unfold gi; simpa using hne)]
    refine ffF_ok (fun j hj => ?_) (by rw [List.nil_append]; exact gi_nodup (comp_nodup fs i))
    obtain ⟨k, hk, rfl⟩ := List.mem_map.1 hj
    have := hb k hk
    omega
  refine ⟨trimM ⟨vs, (compF fs i).map (fcAt fs)⟩, ?_, ?_, hT, closed_open.1 (trim_closed (comp_closed hc i)), ?_, ?_, shell_one vs hil, comp_sorted fs i, hne⟩
  · unfold partE
    rw [if_neg (by simpa using hM), if_neg (by simpa using hfe), hpm]; exact hT
  · unfold partR
    rw [if_neg (by simpa using hM), if_neg (by simpa using hfe), hpm]; exact if_pos hT
  · show ((compF fs i).map (fcAt fs) |>.map _).length = _
    rw [List.length_map, List.length_map]
  · rw [trim_vol hin, List.map_map]; rfl

end Go.Proofs.YtbpkkgeedkegcaaGreatDoor
