/- Contracts of functions that this seat's laws reach, each: what one call returns and what it leaves in memory; no condition beyond each theorem's own hypotheses. -/
import Derived.Test.YtbpkkgeedkegcaaGreatDoorZqMeshTE
import Derived.Test.YtbpkkgeedkegcaaGreatDoorZqGpLib
import Derived.Test.YtbpkkgeedkegcaaGreatDoorZqShellSub
import Derived.Test.YtbpkkgeedkegcaaGreatDoorZqMeshCD
import Derived.Test.YtbpkkgeedkegcaaGreatDoorZqMeshTB
set_option linter.unusedVariables false
set_option linter.unusedSimpArgs false
namespace Go.Proofs.YtbpkkgeedkegcaaGreatDoor
open Go Go.RowKit Go.Bl

abbrev Pl3 := V3 × V3 × V3

def plc (vs : List V3) (f : Fc) : Pl3 := (atV vs f.a, atV vs f.b, atV vs f.c)

def plcs (vs : List V3) (fs : List Fc) : List Pl3 := fs.map (plc vs)

def normP (p : Pl3) : V3 := crossV (lessV p.2.1 p.1) (lessV p.2.2 p.1)

def volP (p : Pl3) : Int := dotV p.1 (crossV p.2.1 p.2.2)

def sdP (p : Pl3) : List (V3 × V3) := [(p.1, p.2.1), (p.2.1, p.2.2), (p.2.2, p.1)]

def allP (l : List Pl3) : List (V3 × V3) := l.flatMap sdP

def plS (vs : List V3) (s : Sd) : V3 × V3 := (atV vs s.u, atV vs s.v)

theorem norm_plc (vs : List V3) (f : Fc) : normV vs f = normP (plc vs f) := rfl

theorem allS_pl (vs : List V3) (fs : List Fc) : (allS fs).map (plS vs) = allP (plcs vs fs) := by
  induction fs with
  | nil => rfl
  | cons f r ih =>
    show (sdsOf f ++ allS r).map (plS vs) = sdP (plc vs f) ++ allP (plcs vs r)
    rw [List.map_append, ih]; rfl

theorem inI_nat {n : Nat} {i : Int} (h : inI n i = true) : ∃ j : Nat, i = j ∧ j < n := by
  unfold inI at h
  simp at h
  exact ⟨i.toNat, by omega, by omega⟩

theorem atV_nat {vs : List V3} {j : Nat} (h : j < vs.length) : atV vs (j : Int) = vs[j] := by
  unfold atV
  rw [Int.toNat_natCast, List.getD_eq_getElem?_getD, List.getElem?_eq_getElem h, Option.getD_some]

theorem atV_mem {vs : List V3} {i : Int} (h : inI vs.length i = true) : atV vs i ∈ vs := by
  obtain ⟨j, rfl, hj⟩ := inI_nat h
  rw [atV_nat hj]; exact List.getElem_mem _

theorem inF_abcW {n : Nat} {f : Fc} (h : inF n f = true) : inI n f.a = true ∧ inI n f.b = true ∧ inI n f.c = true := by
  unfold inF at h
  simp only [Bool.and_eq_true] at h
  exact ⟨h.1.1, h.1.2, h.2⟩

theorem nodup_get {α : Type} {l : List α} (h : l.Nodup) {i j : Nat} (hi : i < l.length) (hj : j < l.length) (e : l[i] = l[j]) : i = j := by
  have hp := List.pairwise_iff_getElem.1 h
  rcases Nat.lt_trichotomy i j with hh | hh | hh
  · exact absurd e (hp i j hi hj hh)
  · exact hh
  · exact absurd e.symm (hp j i hj hi hh)

theorem atV_inj {vs : List V3} (h : vs.Nodup) {i j : Int} (hi : inI vs.length i = true) (hj : inI vs.length j = true) (e : atV vs i = atV vs j) : i = j := by
  obtain ⟨a, ha, ha2⟩ := inI_nat hi
  obtain ⟨b, hb, hb2⟩ := inI_nat hj
  rw [ha, hb] at e ⊢
  rw [atV_nat ha2, atV_nat hb2] at e
  rw [nodup_get h ha2 hb2 e]

/-- each place once, each vertex used -/
structure Tight (vs : List V3) (fs : List Fc) : Prop where
  nd : vs.Nodup
  fin : ∀ f ∈ fs, inF vs.length f = true
  all : ∀ i, i < vs.length → ∃ f ∈ fs, hasI i f = true

theorem allS_in {n : Nat} {fs : List Fc} (h : ∀ f ∈ fs, inF n f = true) : ∀ s ∈ allS fs, inI n s.u = true ∧ inI n s.v = true := by
  intro s hs
  obtain ⟨f, hf, hs⟩ := List.mem_flatMap.1 hs
  obtain ⟨h1, h2, h3⟩ := inF_abcW (h f hf)
  simp only [sdsOf, List.mem_cons, List.not_mem_nil, or_false] at hs
  rcases hs with rfl | rfl | rfl
  · exact ⟨h1, h2⟩
  · exact ⟨h2, h3⟩
  · exact ⟨h3, h1⟩

theorem nodup_of_map {α β : Type} (f : α → β) {l : List α} (h : (l.map f).Nodup) : l.Nodup := by
  unfold List.Nodup at h ⊢
  rw [List.pairwise_map] at h
  exact h.imp fun h e => h (by rw [e])

theorem Tight.inj {vs : List V3} {fs : List Fc} (h : Tight vs fs) : ∀ x ∈ allS fs, ∀ y ∈ allS fs, plS vs x = plS vs y → x = y := by
  intro x hx y hy e
  obtain ⟨x1, x2⟩ := allS_in h.fin x hx
  obtain ⟨y1, y2⟩ := allS_in h.fin y hy
  injection e with e1 e2
  have h1 := atV_inj h.nd x1 y1 e1
  have h2 := atV_inj h.nd x2 y2 e2
  cases x; cases y; simp_all

theorem Tight.once {vs : List V3} {fs : List Fc} (h : Tight vs fs) : (allS fs).Nodup ↔ (allP (plcs vs fs)).Nodup := by
  rw [← allS_pl]
  exact ⟨fun hn => nodup_map_on _ hn h.inj, nodup_of_map _⟩

theorem Tight.closed {vs : List V3} {fs : List Fc} (h : Tight vs fs) : ClosedS fs ↔ ∀ s ∈ allP (plcs vs fs), (s.2, s.1) ∈ allP (plcs vs fs) := by
  rw [← allS_pl]
  constructor
  · intro hc s hs
    obtain ⟨t, ht, rfl⟩ := List.mem_map.1 hs
    exact List.mem_map.2 ⟨rvS t, hc t ht, rfl⟩
  · intro hc s hs
    obtain ⟨t, ht, e⟩ := List.mem_map.1 (hc _ (List.mem_map.2 ⟨s, hs, rfl⟩))
    obtain ⟨s1, s2⟩ := allS_in h.fin s hs
    obtain ⟨t1, t2⟩ := allS_in h.fin t ht
    injection e with e1 e2
    have h1 := atV_inj h.nd t1 s2 e1
    have h2 := atV_inj h.nd t2 s1 e2
    have : t = rvS s := by cases t; cases s; simp_all [rvS]
    rw [← this]; exact ht

def ofP (l : List Pl3) : List V3 := l.flatMap fun p => [p.1, p.2.1, p.2.2]

theorem Tight.mem {vs : List V3} {fs : List Fc} (h : Tight vs fs) (v : V3) : v ∈ vs ↔ v ∈ ofP (plcs vs fs) := by
  constructor
  · intro hv
    obtain ⟨i, hi, rfl⟩ := List.mem_iff_getElem.1 hv
    obtain ⟨f, hf, hh⟩ := h.all i hi
    refine List.mem_flatMap.2 ⟨plc vs f, List.mem_map.2 ⟨f, hf, rfl⟩, ?_⟩
    unfold hasI at hh
    simp only [Bool.or_eq_true, decide_eq_true_eq] at hh
    simp only [plc, List.mem_cons, List.not_mem_nil, or_false]
    rcases hh with (e | e) | e
    · left; rw [e, atV_nat hi]
    · right; left; rw [e, atV_nat hi]
    · right; right; rw [e, atV_nat hi]
  · intro hv
    obtain ⟨p, hp, hv⟩ := List.mem_flatMap.1 hv
    obtain ⟨f, hf, rfl⟩ := List.mem_map.1 hp
    obtain ⟨h1, h2, h3⟩ := inF_abcW (h.fin f hf)
    simp only [plc, List.mem_cons, List.not_mem_nil, or_false] at hv
    rcases hv with rfl | rfl | rfl
    · exact atV_mem h1
    · exact atV_mem h2
    · exact atV_mem h3

theorem Tight.len {vs vs' : List V3} {fs fs' : List Fc} (h : Tight vs fs) (h' : Tight vs' fs') (e : plcs vs fs = plcs vs' fs') : vs.length = vs'.length := by
  refine ((List.perm_ext_iff_of_nodup h.nd h'.nd).2 fun v => ?_).length_eq
  rw [h.mem, h'.mem, e]

/-! trimming -/

theorem keepTo_nodup (vs : List V3) (U : List Bool) (hU : ∀ i (h : i < vs.length), U.getD i false = true → vs[i] ∉ vs.take i) : ∀ k, k ≤ vs.length → (keepTo vs U k).Nodup
  | 0, _ => by simp [keepTo]
  | k + 1, hk => by
    unfold keepTo
    by_cases hu : U.getD k false = true
    · rw [if_pos hu, List.nodup_append]
      refine ⟨keepTo_nodup vs U hU k (by omega), by simp, fun a ha b hb => ?_⟩
      rw [List.mem_singleton.1 hb]
      simp only [List.getD_eq_getElem?_getD, List.getElem?_eq_getElem (show k < vs.length by omega), Option.getD_some]
      rintro rfl
      obtain ⟨i, h, h1, -, h3⟩ := (keepTo_mem vs U k (by omega) _).1 ha
      refine hU k (by omega) hu ?_
      rw [← h3]
      exact List.mem_take_iff_getElem.2 ⟨i, by omega, rfl⟩
    · rw [if_neg hu, List.append_nil]; exact keepTo_nodup vs U hU k (by omega)

theorem useL_get {n i : Nat} {fs : List Fc} (hi : i < n) : (useL n fs).getD i false = fs.any (hasI i) := by
  rw [List.getD_eq_getElem?_getD, List.getElem?_eq_getElem (by rw [useL_len]; exact hi), Option.getD_some, useL_at]

theorem useL_yes {n i : Nat} {fs : List Fc} {f : Fc} (hi : i < n) (hf : f ∈ fs) (hh : hasI i f = true) : (useL n fs).getD i false = true := by
  rw [useL_get hi]; exact List.any_eq_true.2 ⟨f, hf, hh⟩

theorem fstV_get {vs : List V3} {v : V3} (h : v ∈ vs) : ∃ h : fstV vs v < vs.length, vs[fstV vs v] = v ∧ v ∉ vs.take (fstV vs v) := by
  refine ⟨fstV_lt h, ?_⟩
  induction vs with
  | nil => simp at h
  | cons x l ih =>
    by_cases e : x = v
    · have : fstV (x :: l) v = 0 := by unfold fstV; rw [if_pos e]
      simp only [this]
      exact ⟨by simpa using e, by simp⟩
    · have h0 : fstV (x :: l) v = fstV l v + 1 := by conv => lhs; unfold fstV
                                                     rw [if_neg e]
      have hm : v ∈ l := by rcases List.mem_cons.1 h with h | h; exact absurd h.symm e; exact h
      obtain ⟨i1, i2⟩ := ih hm
      simp only [h0]
      refine ⟨by simpa using i1, ?_⟩
      rw [List.take_succ_cons, List.mem_cons, not_or]
      exact ⟨fun h => e h.symm, i2⟩

theorem weldF_in {vs : List V3} {f : Fc} (h : inF vs.length f = true) : weldF vs f = ⟨fstV vs (atV vs f.a), fstV vs (atV vs f.b), fstV vs (atV vs f.c)⟩ := rfl

theorem weldF_plc {vs : List V3} {f : Fc} (h : inF vs.length f = true) : plc vs (weldF vs f) = plc vs f := by
  obtain ⟨h1, h2, h3⟩ := inF_abcW h
  rw [weldF_in h]
  obtain ⟨a1, a2, -⟩ := fstV_get (atV_mem h1)
  obtain ⟨b1, b2, -⟩ := fstV_get (atV_mem h2)
  obtain ⟨c1, c2, -⟩ := fstV_get (atV_mem h3)
  unfold plc
  simp only [atV_nat a1, atV_nat b1, atV_nat c1, a2, b2, c2]

theorem inI_of {n j : Nat} (h : j < n) : inI n (j : Int) = true := by unfold inI; simp [h]

theorem norm_ne {p : Pl3} (h : normP p ≠ ⟨0, 0, 0⟩) : p.1 ≠ p.2.1 ∧ p.2.1 ≠ p.2.2 ∧ p.2.2 ≠ p.1 := by
  have e : ∀ v : V3, lessV v v = ⟨0, 0, 0⟩ := fun v => by simp [lessV]
  refine ⟨fun h1 => h ?_, fun h1 => h ?_, fun h1 => h ?_⟩ <;> unfold normP
  · rw [h1, e]; simp [crossV]
  · rw [h1]; simp [crossV, Int.mul_comm, Int.sub_self]
  · rw [h1, e]; simp [crossV]

theorem weldK_all {vs : List V3} {fs : List Fc} (h : ∀ f ∈ fs, inF vs.length f = true ∧ normV vs f ≠ ⟨0, 0, 0⟩) : weldK vs fs fs.length = fs.map (weldF vs) := by
  unfold weldK
  rw [List.take_length, List.filter_eq_self]
  intro g hg
  obtain ⟨f, hf, rfl⟩ := List.mem_map.1 hg
  obtain ⟨hi, hn⟩ := h f hf
  have hp := weldF_plc hi
  rw [norm_plc, ← hp] at hn
  obtain ⟨n1, n2, n3⟩ := norm_ne hn
  unfold okFc
  simp only [Bool.and_eq_true, bne_iff_ne]
  refine ⟨fun e => n1 ?_, fun e => n2 ?_, fun e => n3 ?_⟩ <;> simp only [plc, e]

theorem hasI_cases {i : Nat} {f : Fc} (h : hasI i f = true) : f.a = i ∨ f.b = i ∨ f.c = i := by
  unfold hasI at h
  simp only [Bool.or_eq_true, decide_eq_true_eq] at h
  rcases h with (h | h) | h
  · exact .inl h
  · exact .inr (.inl h)
  · exact .inr (.inr h)

theorem weld_tight {vs : List V3} {fs : List Fc} (h : ∀ f ∈ fs, inF vs.length f = true ∧ normV vs f ≠ ⟨0, 0, 0⟩) : Tight (weldM vs fs).vs (weldM vs fs).fs ∧ plcs (weldM vs fs).vs (weldM vs fs).fs = plcs vs fs ∧ (weldM vs fs).fs.length = fs.length ∧ ∀ v ∈ (weldM vs fs).vs, v ∈ vs := by
  have hK := weldK_all h
  unfold weldM trimM
  simp only [hK]
  obtain ⟨U, hU⟩ : ∃ U, U = useL vs.length (fs.map (weldF vs)) := ⟨_, rfl⟩
  rw [← hU]
  -- what a welded face's corner is
  have hcor : ∀ f ∈ fs, ∀ i : Int, (i = f.a ∨ i = f.b ∨ i = f.c) → ∃ j : Nat, (fstV vs (atV vs i)) = j ∧ ∃ hj : j < vs.length, vs[j] = atV vs i ∧ vs[j] ∉ vs.take j ∧ U.getD j false = true := by
    intro f hf i hi
    obtain ⟨h1, h2, h3⟩ := inF_abcW (h f hf).1
    have hin : inI vs.length i = true := by rcases hi with rfl | rfl | rfl <;> assumption
    obtain ⟨g1, g2, g3⟩ := fstV_get (atV_mem hin)
    refine ⟨fstV vs (atV vs i), rfl, g1, g2, by rw [g2]; exact g3, ?_⟩
    rw [hU]
    refine useL_yes g1 (List.mem_map.2 ⟨f, hf, rfl⟩) ?_
    rw [weldF_in (h f hf).1]
    unfold hasI
    rcases hi with rfl | rfl | rfl <;> simp
  have hUv : ∀ i (hi : i < vs.length), U.getD i false = true → vs[i] ∉ vs.take i := by
    intro i hi hu
    rw [hU, useL_get hi, List.any_eq_true] at hu
    obtain ⟨g, hg, hh⟩ := hu
    obtain ⟨f, hf, rfl⟩ := List.mem_map.1 hg
    rw [weldF_in (h f hf).1] at hh
    have key : ∀ x : Int, (x = f.a ∨ x = f.b ∨ x = f.c) → ((fstV vs (atV vs x) : Nat) : Int) = i → vs[i] ∉ vs.take i := by
      intro x hx e
      obtain ⟨j, e1, hj, e2, e3, -⟩ := hcor f hf x hx
      have : j = i := by rw [e1] at e; omega
      subst this; exact e3
    rcases hasI_cases hh with e | e | e
    · exact key f.a (.inl rfl) e
    · exact key f.b (.inr (.inl rfl)) e
    · exact key f.c (.inr (.inr rfl)) e
  have hat : ∀ f ∈ fs, ∀ i : Int, (i = f.a ∨ i = f.b ∨ i = f.c) → inI (keepTo vs U vs.length).length (rkI vs U (fstV vs (atV vs i))) = true ∧ atV (keepTo vs U vs.length) (rkI vs U (fstV vs (atV vs i))) = atV vs i := by
    intro f hf i hi
    obtain ⟨j, e1, hj, e2, -, e4⟩ := hcor f hf i hi
    obtain ⟨k1, k2, k3⟩ := keepTo_get vs U vs.length (Nat.le_refl _) j hj e4
    rw [e1]
    unfold rkI
    exact ⟨inI_of k1, by rw [atV_nat k1, k3, e2]⟩
  refine ⟨⟨keepTo_nodup vs U hUv vs.length (Nat.le_refl _), ?_, ?_⟩, ?_, by simp, ?_⟩
  · intro g hg
    obtain ⟨g', hg', rfl⟩ := List.mem_map.1 hg
    obtain ⟨f, hf, rfl⟩ := List.mem_map.1 hg'
    rw [weldF_in (h f hf).1]
    unfold inF renum
    simp only [Int.toNat_natCast, Bool.and_eq_true]
    exact ⟨⟨(hat f hf f.a (.inl rfl)).1, (hat f hf f.b (.inr (.inl rfl))).1⟩, (hat f hf f.c (.inr (.inr rfl))).1⟩
  · intro j hj
    obtain ⟨i, i1, i2, i3⟩ := keepTo_sur vs U vs.length j hj
    have hu := i2
    rw [hU, useL_get i1, List.any_eq_true] at hu
    obtain ⟨g, hg, hh⟩ := hu
    refine ⟨renum vs U g, List.mem_map.2 ⟨g, hg, rfl⟩, ?_⟩
    unfold hasI renum rkI
    simp only [Bool.or_eq_true, decide_eq_true_eq]
    rcases hasI_cases hh with e | e | e
    · left; left; rw [e, Int.toNat_natCast, i3]
    · left; right; rw [e, Int.toNat_natCast, i3]
    · right; rw [e, Int.toNat_natCast, i3]
  · unfold plcs
    rw [List.map_map, List.map_map]
    refine List.map_congr_left fun f hf => ?_
    simp only [Function.comp_apply]
    rw [weldF_in (h f hf).1]
    unfold renum plc
    simp only [Int.toNat_natCast]
    rw [(hat f hf f.a (.inl rfl)).2, (hat f hf f.b (.inr (.inl rfl))).2, (hat f hf f.c (.inr (.inr rfl))).2]
  · intro v hv
    obtain ⟨i, hi, -, -, rfl⟩ := (keepTo_mem vs U vs.length (Nat.le_refl _) v).1 hv
    exact List.getElem_mem _

end Go.Proofs.YtbpkkgeedkegcaaGreatDoor

namespace Go.Proofs.YtbpkkgeedkegcaaGreatDoor
open Go Go.RowKit Go.Bl

def pl3 (vs : List V3) (f : Fc) : List V3 := [atV vs f.a, atV vs f.b, atV vs f.c]

def looseV (vs : List V3) (fs : List Fc) : List V3 := fs.flatMap (pl3 vs)

def fc3 (k : Nat) : Fc := ⟨(3 * k : Nat), (3 * k + 1 : Nat), (3 * k + 2 : Nat)⟩

def looseF (n : Nat) : List Fc := (List.range n).map fc3

/-- the right faces of a mesh are told by their places -/
theorem norm_plcs {vs vs' : List V3} {fs fs' : List Fc} (e : plcs vs fs = plcs vs' fs') (h : ∀ f ∈ fs', normV vs' f ≠ ⟨0, 0, 0⟩) : ∀ f ∈ fs, normV vs f ≠ ⟨0, 0, 0⟩ := by
  intro f hf
  have : plc vs f ∈ plcs vs' fs' := by rw [← e]; exact List.mem_map.2 ⟨f, hf, rfl⟩
  obtain ⟨g, hg, e2⟩ := List.mem_map.1 this
  rw [norm_plc, ← e2]
  exact h g hg

theorem mem_far {vs : List V3} (h : vs.any farV = false) {v : V3} (hv : v ∈ vs) : farV v = false := by
  have := List.any_eq_false.1 h v hv
  simpa using this

theorem far_sub {vs vs' : List V3} (h : vs.any farV = false) (hs : ∀ v ∈ vs', v ∈ vs) : vs'.any farV = false :=
  List.any_eq_false.2 fun v hv => by rw [mem_far h (hs v hv)]; simp

structure WeldOk (vs : List V3) (fs : List Fc) : Prop where
  t : Tight vs fs
  ok : meshF ⟨vs, fs⟩ = 0

theorem weld_once {vs : List V3} {fs : List Fc} (hM : meshF ⟨vs, fs⟩ = 0) : weldE vs fs = meshF (weldM vs fs) ∧ (weldE vs fs = 0 ∨ weldE vs fs = 6) ∧ weldR vs fs = okM (weldM vs fs) ∧ Tight (weldM vs fs).vs (weldM vs fs).fs ∧ plcs (weldM vs fs).vs (weldM vs fs).fs = plcs vs fs ∧ (weldM vs fs).fs.length = fs.length := by
  obtain ⟨h1, h2, h3, h4, h5, h6⟩ := meshOk.1 hM
  have h7 : ∀ f ∈ fs, inF vs.length f = true ∧ normV vs f ≠ ⟨0, 0, 0⟩ := fun f hf => faceF_iff.1 (h5 f hf)
  obtain ⟨t, e, l, s⟩ := weld_tight h7
  have hE : weldE vs fs = meshF (weldM vs fs) := by unfold weldE; rw [if_neg (by simp [hM])]
  refine ⟨hE, ?_, ?_, t, e, l⟩
  · rw [hE]
    unfold meshF
    have k1 : (weldM vs fs).fs ≠ [] := by
      intro h; rw [h] at l; simp at l
      exact h1 (List.eq_nil_of_length_eq_zero l.symm)
    have k2 : (weldM vs fs).vs.length ≤ 1000 := Nat.le_trans (keepTo_len _ _ _) h2
    rw [if_neg k1, if_neg (show ¬ (1000 < (weldM vs fs).vs.length ∨ 1000 < (weldM vs fs).fs.length) by omega), if_neg (by simp only [far_sub h4 s]; decide), if_pos (facesF_all fun f hf => faceF_iff.2 ⟨t.fin f hf, norm_plcs e (fun g hg => (h7 g hg).2) f hf⟩)]
    by_cases k : (allS (weldM vs fs).fs).Nodup
    · rw [if_pos k]; exact .inl rfl
    · rw [if_neg k]; exact .inr rfl
  · unfold weldR; rw [if_neg (by simp [hM])]

end Go.Proofs.YtbpkkgeedkegcaaGreatDoor
