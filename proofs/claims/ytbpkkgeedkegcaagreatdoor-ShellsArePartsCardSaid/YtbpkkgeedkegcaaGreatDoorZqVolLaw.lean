/- Contracts of functions that this seat's laws reach, each: what one call returns and what it leaves in memory; no condition beyond each theorem's own hypotheses. -/
import Derived.Test.YtbpkkgeedkegcaaGreatDoorZqShellSub
import Derived.Test.YtbpkkgeedkegcaaGreatDoorZqSwpBase
import Derived.Test.YtbpkkgeedkegcaaGreatDoorZqMeshBH
set_option linter.unusedVariables false
set_option linter.unusedSimpArgs false
namespace Go.Proofs.YtbpkkgeedkegcaaGreatDoor
open Go Go.RowKit Go.Bl

/-- a map of points that keeps sums, and distances from the middle; it may turn round -/
structure Lin (s : Bool) (φ : V3 → V3) : Prop where
  less : ∀ a b, lessV (φ a) (φ b) = φ (lessV a b)
  cross : ∀ a b, crossV (φ a) (φ b) = φ (if s then crossV b a else crossV a b)
  dot : ∀ a b, dotV (φ a) (φ b) = dotV a b
  zero : ∀ v, φ v = ⟨0, 0, 0⟩ ↔ v = ⟨0, 0, 0⟩
  far : ∀ v, farV (φ v) = farV v

theorem Lin.id : Lin false (fun v => v) := ⟨fun _ _ => rfl, fun _ _ => rfl, fun _ _ => rfl, fun _ => Iff.rfl, fun _ => rfl⟩

theorem farV_swap1 (x y z : Int) : farV ⟨x, -z, y⟩ = farV ⟨x, y, z⟩ := by
  unfold farV; simp only [farZ_neg]
  cases farZ x <;> cases farZ y <;> cases farZ z <;> rfl

theorem farV_swap2 (x y z : Int) : farV ⟨z, y, -x⟩ = farV ⟨x, y, z⟩ := by
  unfold farV; simp only [farZ_neg]
  cases farZ x <;> cases farZ y <;> cases farZ z <;> rfl

theorem farV_swap3 (x y z : Int) : farV ⟨-y, x, z⟩ = farV ⟨x, y, z⟩ := by
  unfold farV; simp only [farZ_neg]
  cases farZ x <;> cases farZ y <;> cases farZ z <;> rfl

theorem qV_lin (axis : Int) : Lin false (qV axis) := by
  by_cases h0 : axis = 0
  · subst h0
    refine ⟨fun a b => ?_, fun a b => ?_, fun a b => ?_, fun v => ?_, fun v => ?_⟩
    · (simp [qV, lessV]) <;> omega
    · simp only [qV, crossV, if_true, Bool.false_eq_true, if_false, V3.mk.injEq]; grind
    · simp only [qV, dotV, if_true]; grind
    · cases v; (simp [qV]) <;> omega
    · cases v; simp only [qV, if_true]; exact farV_swap1 _ _ _
  by_cases h1 : axis = 1
  · subst h1
    refine ⟨fun a b => ?_, fun a b => ?_, fun a b => ?_, fun v => ?_, fun v => ?_⟩
    · (simp [qV, lessV]) <;> omega
    · simp only [qV, crossV, if_true, Bool.false_eq_true, if_false, V3.mk.injEq, show ¬ ((1 : Int) = 0) by decide]; grind
    · simp only [qV, dotV, if_true, show ¬ ((1 : Int) = 0) by decide, if_false]; grind
    · cases v; (simp [qV]) <;> omega
    · cases v; simp only [qV, if_true, show ¬ ((1 : Int) = 0) by decide, if_false]; exact farV_swap2 _ _ _
  · refine ⟨fun a b => ?_, fun a b => ?_, fun a b => ?_, fun v => ?_, fun v => ?_⟩
    · (simp [qV, lessV, h0, h1]) <;> omega
    · simp only [qV, crossV, if_neg h0, if_neg h1, Bool.false_eq_true, if_false, V3.mk.injEq]; grind
    · simp only [qV, dotV, if_neg h0, if_neg h1]; grind
    · cases v; (simp [qV, h0, h1]) <;> omega
    · cases v; simp only [qV, if_neg h0, if_neg h1]; exact farV_swap3 _ _ _

theorem turnV_lin (axis : Int) : ∀ k, Lin false (turnV axis k)
  | 0 => Lin.id
  | k + 1 => by
    have h1 := turnV_lin axis k
    have h2 := qV_lin axis
    refine ⟨fun a b => ?_, fun a b => ?_, fun a b => ?_, fun v => ?_, fun v => ?_⟩ <;> simp only [turnV]
    · rw [h2.less, h1.less]
    · rw [h2.cross]
      simp only [Bool.false_eq_true, if_false]
      rw [h1.cross]; rfl
    · rw [h2.dot, h1.dot]
    · rw [h2.zero, h1.zero]
    · rw [h2.far, h1.far]

theorem mirV_lin (axis : Int) : Lin true (mirV axis) := by
  by_cases h0 : axis = 0
  · subst h0
    refine ⟨fun a b => ?_, fun a b => ?_, fun a b => ?_, fun v => ?_, fun v => ?_⟩
    · (simp [mirV, lessV]) <;> omega
    · simp only [mirV, crossV, if_true, V3.mk.injEq]; grind
    · simp only [mirV, dotV, if_true]; grind
    · cases v; (simp [mirV]) <;> omega
    · cases v; simp only [mirV, if_true, farV, farZ_neg]
  by_cases h1 : axis = 1
  · subst h1
    refine ⟨fun a b => ?_, fun a b => ?_, fun a b => ?_, fun v => ?_, fun v => ?_⟩
    · (simp [mirV, lessV]) <;> omega
    · simp only [mirV, crossV, if_true, V3.mk.injEq, show ¬ ((1 : Int) = 0) by decide, if_false]; grind
    · simp only [mirV, dotV, if_true, show ¬ ((1 : Int) = 0) by decide, if_false]; grind
    · cases v; (simp [mirV]) <;> omega
    · cases v; simp only [mirV, if_true, farV, farZ_neg, show ¬ ((1 : Int) = 0) by decide, if_false]
  · refine ⟨fun a b => ?_, fun a b => ?_, fun a b => ?_, fun v => ?_, fun v => ?_⟩
    · (simp [mirV, lessV, h0, h1]) <;> omega
    · simp only [mirV, crossV, if_neg h0, if_neg h1, if_true, V3.mk.injEq]; grind
    · simp only [mirV, dotV, if_neg h0, if_neg h1]; grind
    · cases v; (simp [mirV, h0, h1]) <;> omega
    · cases v; simp only [mirV, if_neg h0, if_neg h1, farV, farZ_neg]

theorem Lin.map0 {s : Bool} {φ : V3 → V3} (h : Lin s φ) (vs : List V3) (i : Int) : atV (vs.map φ) i = φ (atV vs i) := by
  unfold atV
  simp only [List.getD_eq_getElem?_getD, List.getElem?_map]
  cases vs[i.toNat]? with
  | none => exact ((h.zero _).2 rfl).symm
  | some v => rfl

def fcS (s : Bool) (f : Fc) : Fc := if s then swp f else f

theorem inF_swp (n : Nat) (f : Fc) : inF n (swp f) = inF n f := by
  unfold inF swp; simp only [Bool.and_assoc, Bool.and_comm (inI n f.b)]

theorem Lin.norm {s : Bool} {φ : V3 → V3} (h : Lin s φ) (vs : List V3) (f : Fc) : normV (vs.map φ) (fcS s f) = φ (normV vs f) := by
  unfold normV fcS
  cases s
  · simp only [Bool.false_eq_true, if_false, h.map0, h.less, h.cross]
  · simp only [if_true, swp, h.map0, h.less, h.cross]

theorem Lin.part {s : Bool} {φ : V3 → V3} (h : Lin s φ) (vs : List V3) (f : Fc) : partV (vs.map φ) (fcS s f) = partV vs f := by
  unfold partV fcS
  cases s
  · simp only [Bool.false_eq_true, if_false, h.map0, h.cross, h.dot]
  · simp only [if_true, swp, h.map0, h.cross, h.dot]

theorem Lin.face {s : Bool} {φ : V3 → V3} (h : Lin s φ) (vs : List V3) (f : Fc) (hf : faceF vs f = 0) : faceF (vs.map φ) (fcS s f) = 0 := by
  obtain ⟨h1, h2⟩ := faceF_iff.1 hf
  refine faceF_iff.2 ⟨?_, ?_⟩
  · rw [List.length_map]; unfold fcS; cases s
    · exact h1
    · rw [if_pos rfl, inF_swp]; exact h1
  · rw [h.norm]; exact fun e => h2 ((h.zero _).1 e)

theorem allS_fcS {s : Bool} {fs : List Fc} (hn : (allS fs).Nodup) : (allS (fs.map (fcS s))).Nodup := by
  cases s
  · rw [show fs.map (fcS false) = fs by rw [show (fcS false) = _root_.id from rfl, List.map_id]]; exact hn
  · exact allS_swp_nodup hn

theorem Lin.mesh {s : Bool} {φ : V3 → V3} (h : Lin s φ) {vs : List V3} {fs : List Fc} (hM : meshF ⟨vs, fs⟩ = 0) : meshF ⟨vs.map φ, fs.map (fcS s)⟩ = 0 := by
  obtain ⟨h1, h2, h3, h4, h5, h6⟩ := meshOk.1 hM
  refine meshOk.2 ⟨by simpa using h1, by rw [List.length_map]; exact h2, by rw [List.length_map]; exact h3, ?_, fun f hf => ?_, allS_fcS h6⟩
  · rw [List.any_map, ← h4]; congr 1; funext v; exact h.far v
  · obtain ⟨g, hg, rfl⟩ := List.mem_map.1 hf
    exact h.face vs g (h5 g hg)

theorem Lin.vol {s : Bool} {φ : V3 → V3} (h : Lin s φ) (vs : List V3) (fs : List Fc) : volS (vs.map φ) (fs.map (fcS s)) = volS vs fs := by
  unfold volS
  rw [List.map_map]
  congr 1
  exact List.map_congr_left fun f _ => h.part vs f

theorem closed_fcS {s : Bool} {fs : List Fc} (hc : ClosedS fs) : ClosedS (fs.map (fcS s)) := by
  cases s
  · rw [show fs.map (fcS false) = fs by rw [show (fcS false) = _root_.id from rfl, List.map_id]]; exact hc
  · have hp := allS_swp fs
    intro x hx
    have h1 := hp.mem_iff.1 hx
    obtain ⟨y, hy, rfl⟩ := List.mem_map.1 h1
    exact hp.mem_iff.2 (List.mem_map.2 ⟨rvS y, hc y hy, rfl⟩)

theorem fcS_false (fs : List Fc) : fs.map (fcS false) = fs := by rw [show (fcS false) = _root_.id from rfl, List.map_id]

theorem swp_swp (fs : List Fc) : (fs.map swp).map swp = fs := by
  rw [List.map_map, show swp ∘ swp = _root_.id from rfl, List.map_id]

theorem mirV_mirV (axis : Int) (v : V3) : mirV axis (mirV axis v) = v := by
  cases v; unfold mirV
  split
  · simp
  · split <;> simp

theorem q4 (axis : Int) (v : V3) : qV axis (qV axis (qV axis (qV axis v))) = v := by
  cases v; unfold qV
  split
  · simp
  · split <;> simp

theorem turn_back (axis : Int) {q : Nat} (hq : q ≤ 3) (v : V3) : turnV axis ((4 - q) % 4) (turnV axis q v) = v := by
  obtain rfl | rfl | rfl | rfl : q = 0 ∨ q = 1 ∨ q = 2 ∨ q = 3 := by omega
  · rfl
  all_goals (simp only [turnV, Nat.reduceSub, Nat.reduceMod]; exact q4 axis v)
/-- what is moved is as large, if it is closed -/
theorem move_vol {t : V3} {vs : List V3} {fs : List Fc} (hM : meshF ⟨vs, fs⟩ = 0) (hc : ClosedS fs) : volS (vs.map (moveV t)) fs = volS vs fs := by
  have hok := meshOk.1 hM
  refine closed_same (fun s => dotV t (crossV (atV vs s.u) (atV vs s.v))) hc hok.once (fun s => cross_anti t _ _) (fun f hf => ?_)
  have hin := faceF_in (hok.face f hf)
  have hat : ∀ i, inI vs.length i = true → atV (vs.map (moveV t)) i = plusV t (atV vs i) := fun i hi => by
    unfold inI at hi
    simp only [Bool.and_eq_true, decide_eq_true_eq] at hi
    have hl : i.toNat < vs.length := by omega
    unfold atV
    simp only [List.getD_eq_getElem?_getD, List.getElem?_map, List.getElem?_eq_getElem hl, Option.map_some, Option.getD_some]
    rfl
  unfold inF at hin
  simp only [Bool.and_eq_true] at hin
  unfold partV sum3
  rw [hat _ hin.1.1, hat _ hin.1.2, hat _ hin.2]
  exact dot_plus t _ _ _

theorem okM_ok {m : MeshV} (h : meshF m = 0) : okM m = m := if_pos h

theorem turnR_ok {vs : List V3} {fs : List Fc} {axis : Int} {q : Nat} (hM : meshF ⟨vs, fs⟩ = 0) (ha : 0 ≤ axis ∧ axis ≤ 2) (hq : q ≤ 3) : turnR ⟨vs, fs⟩ axis q = (⟨vs.map (turnV axis q), fs⟩, 0) := by
  have h1 := (turnV_lin axis q).mesh hM
  rw [fcS_false] at h1
  unfold turnR
  rw [if_pos hM, if_neg (by unfold outB; simp; omega), if_neg (by unfold outB; simp; omega)]
  simp only [Int.toNat_natCast]
  rw [okM_ok h1, h1]

theorem mirR_ok {vs : List V3} {fs : List Fc} {axis : Int} (hM : meshF ⟨vs, fs⟩ = 0) (ha : 0 ≤ axis ∧ axis ≤ 2) : mirR ⟨vs, fs⟩ axis = (⟨vs.map (mirV axis), fs.map swp⟩, 0) := by
  have h1 : meshF ⟨vs.map (mirV axis), fs.map swp⟩ = 0 := (mirV_lin axis).mesh hM
  unfold mirR
  rw [if_pos hM, if_neg (by unfold outB; simp; omega)]
  show (okM ⟨vs.map (mirV axis), fs.map swp⟩, meshF ⟨vs.map (mirV axis), fs.map swp⟩) = _
  rw [okM_ok h1, h1]

theorem atV_move {t : V3} {vs : List V3} {i : Int} (hi : inI vs.length i = true) : atV (vs.map (moveV t)) i = plusV t (atV vs i) := by
  unfold inI at hi
  simp only [Bool.and_eq_true, decide_eq_true_eq] at hi
  have hl : i.toNat < vs.length := by omega
  unfold atV
  simp only [List.getD_eq_getElem?_getD, List.getElem?_map, List.getElem?_eq_getElem hl, Option.map_some, Option.getD_some]
  rfl

theorem norm_move {t : V3} {vs : List V3} {f : Fc} (h : inF vs.length f = true) : normV (vs.map (moveV t)) f = normV vs f := by
  unfold inF at h
  simp only [Bool.and_eq_true] at h
  unfold normV
  rw [atV_move h.1.1, atV_move h.1.2, atV_move h.2]
  have hl : ∀ a b, lessV (plusV t a) (plusV t b) = lessV a b := fun a b => by
    unfold lessV plusV
    simp only [V3.mk.injEq]
    omega
  simp only [hl]

theorem move_fault {t : V3} {vs : List V3} {fs : List Fc} (hM : meshF ⟨vs, fs⟩ = 0) : meshF ⟨vs.map (moveV t), fs⟩ = 0 ∨ meshF ⟨vs.map (moveV t), fs⟩ = 1 := by
  have hok := meshOk.1 hM
  cases h : (vs.map (moveV t)).any farV with
  | true =>
    right
    refine meshF_far hok.some ?_ h
    have h1 := hok.vl
    have h2 := hok.fl
    rw [List.length_map]; omega
  | false =>
    left
    refine meshOk.2 ⟨hok.some, by rw [List.length_map]; exact hok.vl, hok.fl, h, fun f hf => ?_, hok.once⟩
    obtain ⟨h1, h2⟩ := faceF_iff.1 (hok.face f hf)
    refine faceF_iff.2 ⟨by rw [List.length_map]; exact h1, ?_⟩
    rw [norm_move h1]; exact h2

theorem move_law {t : V3} (ht : allIn t = true) {vs : List V3} {fs : List Fc} (hM : meshF ⟨vs, fs⟩ = 0) (hc : ClosedS fs) : (moveR ⟨vs, fs⟩ t).2 = 1 ∨ ∃ xs : List V3, moveR ⟨vs, fs⟩ t = (⟨xs, fs⟩, 0) ∧ meshF ⟨xs, fs⟩ = 0 ∧ volS xs fs = volS vs fs := by
  rw [move_eq hM]
  unfold movR
  rw [if_pos ht]
  rcases move_fault (t := t) hM with h | h
  · right
    refine ⟨vs.map (moveV t), ?_, h, move_vol hM hc⟩
    rw [okM_ok h, h]
  · left; exact h

end Go.Proofs.YtbpkkgeedkegcaaGreatDoor
