/- Contracts of functions that this seat's laws reach, each: what one call returns and what it leaves in memory; no condition beyond each theorem's own hypotheses. -/
import Derived.Test.YtjodjdjfagjiaaaMeshBA
import Derived.Test.YtjodjdjfagjiaaaMeshH
import Derived.Test.YtjodjdjfagjiaaaFlowA
set_option linter.unusedVariables false
set_option linter.unusedSimpArgs false
namespace Go.Proofs.Ytjodjdjfagjiaaa
open Go.RowKit Go.Bl

theorem slNil {α : Type} [Enc α] (w : World) (lo : Nat) (A : Option Addr) : Sl w lo A ([] : List α) := ⟨by simp [maxLen], [], rfl, fun h => absurd rfl h⟩
/-- a mesh that is right, or none -/
def okM (m : MeshV) : MeshV := if meshF m = 0 then m else ⟨[], []⟩
def SMeshE (lo : Nat) (m : MeshV) (F : Int) (w : World) (e : Ending) (w' : World) : Prop :=
  ∃ (A : Option Addr) (c : Nat) (B : Option Addr) (d : Nat), e = .returned (.tuple #[.agg #[.slice A m.vs.length c, .slice B m.fs.length d], .int .i64 F]) ∧ Sl w' lo A m.vs ∧ Sl w' lo B m.fs ∧ w.grownBy w' none

set_option maxRecDepth 100000 in
theorem checked_any (A : Option Addr) (c : Nat) (vs : List V3) (B : Option Addr) (d : Nat) (fs : List Fc) (w : World) (lo : Nat) (hl : Sl w lo A vs) (hfs : Sl w lo B fs) :
    Calls Try.prog 63 #[.agg #[.slice A vs.length c, .slice B fs.length d]] w (SMeshE lo (okM ⟨vs, fs⟩) (meshF ⟨vs, fs⟩) w) := by
  have hl0 := hl
  have hfs0 := hfs
  obtain ⟨W, hW⟩ : ∃ W, W = (w.alloc (.cells #[.slice A vs.length c, .slice B fs.length d] 29)).alloc (.cells #[.slice none 0 0, .slice none 0 0] 29) := ⟨_, rfl⟩
  have hlt0 : w.heap.size < w.heap.size + 1 := Nat.lt_succ_self _
  have hg0 : w.grownBy W none := by rw [hW]; exact (by repeat (first | exact World.grownBy.refl _ _ | assumption | refine gr_alloc ?_ _ | (apply gr_tail; assumption) | refine gr_drewN ?_ _ | refine gr_drew ?_))
  have b0 : W.cell? ⟨w.heap.size, 0, none⟩ = some (.slice A vs.length c) := by rw [hW]; go_simp
  have b1 : W.cell? ⟨w.heap.size, 1, none⟩ = some (.slice B fs.length d) := by rw [hW]; go_simp
  have q0 : Cell W (w.heap.size + 1) 0 (.slice none 0 0) := by rw [hW]; exact ⟨by go_simp, by go_simp⟩
  have q1 : Cell W (w.heap.size + 1) 1 (.slice none 0 0) := by rw [hW]; exact ⟨by go_simp, by go_simp⟩
  have hCM := checkMesh_any A c vs B d fs W ((hl.mono (Nat.zero_le _)).pure hg0) ((hfs.mono (Nat.zero_le _)).pure hg0)
  replace hW := hide hW.symm
  by_cases hM : meshF ⟨vs, fs⟩ = 0
  · rw [show okM ⟨vs, fs⟩ = ⟨vs, fs⟩ by unfold okM; rw [if_pos hM], hM]
    rw [hM] at hCM
    clear hM
    replace hCM := hide hCM
    go_enter Try.func63, Try.ntmps63
    go_wp2_with fail
    rw [hW.out]
    refine hCM.out.mono ?_
    rintro e w1 ⟨rfl, hg1⟩
    replace b0 := hg1.k b0
    replace b1 := hg1.k b1
    obtain ⟨x0, y0⟩ := q0.gr hg1 (by simp)
    obtain ⟨x1, y1⟩ := q1.gr hg1 (by simp)
    replace hl := (hl.pure hg0).pure hg1
    replace hfs := (hfs.pure hg0).pure hg1
    have hg2 := gr_trans hg0 hg1
    clear hCM hW q0 q1
    go_wp2_with fail
    have hgs := fun (v1 v2 : Value) => gr_set (gr_set (World.grownBy.refl w1 (some (w.heap.size + 1))) (p := ⟨w.heap.size + 1, 0, none⟩) (.inl rfl) v1) (p := ⟨w.heap.size + 1, 1, none⟩) (.inl rfl) v2
    have hk := fun v1 v2 => gr_row hg2 (hgs v1 v2) (fun g e => by injection e; omega)
    refine bodyPost_ret (v := .tuple #[.agg #[.slice A vs.length c, .slice B fs.length d], .int .i64 0]) (by simp [results, Try.results63, go_sem, x0, x1, y0, y1]) rfl ⟨A, c, B, d, rfl, ?_, ?_, hk _ _⟩
    · exact hl0.pure (hk _ _)
    · exact hfs0.pure (hk _ _)
  · rw [show okM ⟨vs, fs⟩ = ⟨[], []⟩ by unfold okM; rw [if_neg hM]]
    generalize meshF ⟨vs, fs⟩ = F at *
    replace hCM := hide hCM
    go_enter Try.func63, Try.ntmps63
    go_wp2_with fail
    rw [hW.out]
    refine hCM.out.mono ?_
    rintro e w1 ⟨rfl, hg1⟩
    obtain ⟨x0, y0⟩ := q0.gr hg1 (by simp)
    obtain ⟨x1, y1⟩ := q1.gr hg1 (by simp)
    have hg2 := gr_trans hg0 hg1
    clear hCM hW q0 q1
    go_wp2_with fail
    have hgs := fun (v1 v2 : Value) => gr_set (gr_set (World.grownBy.refl w1 (some (w.heap.size + 1))) (p := ⟨w.heap.size + 1, 0, none⟩) (.inl rfl) v1) (p := ⟨w.heap.size + 1, 1, none⟩) (.inl rfl) v2
    have hk := fun v1 v2 => gr_row hg2 (hgs v1 v2) (fun g e => by injection e; omega)
    exact bodyPost_ret (v := .tuple #[.agg #[.slice none 0 0, .slice none 0 0], .int .i64 F]) (by simp [results, Try.results63, go_sem, x0, x1, y0, y1]) rfl ⟨none, 0, none, 0, rfl, slNil _ _ _, slNil _ _ _, hk _ _⟩

set_option maxRecDepth 100000 in
theorem right_any (A : Option Addr) (c : Nat) (vs : List V3) (B : Option Addr) (d : Nat) (fs : List Fc) (w : World) (lo : Nat) (hl : Sl w lo A vs) (hfs : Sl w lo B fs) :
    Calls Try.prog 82 #[.agg #[.slice A vs.length c, .slice B fs.length d]] w (SMeshE lo (okM ⟨vs, fs⟩) (meshF ⟨vs, fs⟩) w) := by
  have hl0 := hl
  have hfs0 := hfs
  obtain ⟨W, hW⟩ : ∃ W, W = (w.alloc (.cells #[.slice A vs.length c, .slice B fs.length d] 29)).alloc (.cells #[.slice none 0 0, .slice none 0 0] 29) := ⟨_, rfl⟩
  have hlt0 : w.heap.size < w.heap.size + 1 := Nat.lt_succ_self _
  have hg0 : w.grownBy W none := by rw [hW]; exact (by repeat (first | exact World.grownBy.refl _ _ | assumption | refine gr_alloc ?_ _ | (apply gr_tail; assumption) | refine gr_drewN ?_ _ | refine gr_drew ?_))
  have b0 : W.cell? ⟨w.heap.size, 0, none⟩ = some (.slice A vs.length c) := by rw [hW]; go_simp
  have b1 : W.cell? ⟨w.heap.size, 1, none⟩ = some (.slice B fs.length d) := by rw [hW]; go_simp
  have q0 : Cell W (w.heap.size + 1) 0 (.slice none 0 0) := by rw [hW]; exact ⟨by go_simp, by go_simp⟩
  have q1 : Cell W (w.heap.size + 1) 1 (.slice none 0 0) := by rw [hW]; exact ⟨by go_simp, by go_simp⟩
  have hCM := meshFault_any A c vs B d fs W ((hl.mono (Nat.zero_le _)).pure hg0) ((hfs.mono (Nat.zero_le _)).pure hg0)
  replace hW := hide hW.symm
  by_cases hM : meshF ⟨vs, fs⟩ = 0
  · rw [show okM ⟨vs, fs⟩ = ⟨vs, fs⟩ by unfold okM; rw [if_pos hM], hM]
    rw [hM] at hCM
    clear hM
    replace hCM := hide hCM
    go_enter Try.func82, Try.ntmps82
    go_wp2_with fail
    rw [hW.out]
    refine hCM.out.mono ?_
    rintro e w1 ⟨rfl, hg1⟩
    replace b0 := hg1.k b0
    replace b1 := hg1.k b1
    obtain ⟨x0, y0⟩ := q0.gr hg1 (by simp)
    obtain ⟨x1, y1⟩ := q1.gr hg1 (by simp)
    replace hl := (hl.pure hg0).pure hg1
    replace hfs := (hfs.pure hg0).pure hg1
    have hg2 := gr_trans hg0 hg1
    clear hCM hW q0 q1
    go_wp2_with fail
    have hgs := fun (v1 v2 : Value) => gr_set (gr_set (World.grownBy.refl w1 (some (w.heap.size + 1))) (p := ⟨w.heap.size + 1, 0, none⟩) (.inl rfl) v1) (p := ⟨w.heap.size + 1, 1, none⟩) (.inl rfl) v2
    have hk := fun v1 v2 => gr_row hg2 (hgs v1 v2) (fun g e => by injection e; omega)
    refine bodyPost_ret (v := .tuple #[.agg #[.slice A vs.length c, .slice B fs.length d], .int .i64 0]) (by simp [results, Try.results82, go_sem, x0, x1, y0, y1]) rfl ⟨A, c, B, d, rfl, ?_, ?_, hk _ _⟩
    · exact hl0.pure (hk _ _)
    · exact hfs0.pure (hk _ _)
  · rw [show okM ⟨vs, fs⟩ = ⟨[], []⟩ by unfold okM; rw [if_neg hM]]
    generalize meshF ⟨vs, fs⟩ = F at *
    replace hCM := hide hCM
    go_enter Try.func82, Try.ntmps82
    go_wp2_with fail
    rw [hW.out]
    refine hCM.out.mono ?_
    rintro e w1 ⟨rfl, hg1⟩
    obtain ⟨x0, y0⟩ := q0.gr hg1 (by simp)
    obtain ⟨x1, y1⟩ := q1.gr hg1 (by simp)
    have hg2 := gr_trans hg0 hg1
    clear hCM hW q0 q1
    go_wp2_with fail
    have hgs := fun (v1 v2 : Value) => gr_set (gr_set (World.grownBy.refl w1 (some (w.heap.size + 1))) (p := ⟨w.heap.size + 1, 0, none⟩) (.inl rfl) v1) (p := ⟨w.heap.size + 1, 1, none⟩) (.inl rfl) v2
    have hk := fun v1 v2 => gr_row hg2 (hgs v1 v2) (fun g e => by injection e; omega)
    exact bodyPost_ret (v := .tuple #[.agg #[.slice none 0 0, .slice none 0 0], .int .i64 F]) (by simp [results, Try.results82, go_sem, x0, x1, y0, y1]) rfl ⟨none, 0, none, 0, rfl, slNil _ _ _, slNil _ _ _, hk _ _⟩

theorem isAxis_any (n : Int) (w : World) : Calls Try.prog 62 #[.int .i64 n] w fun e w' => e = .returned (.bool (!outB n 0 2)) ∧ w = w' := by
  go_enter Try.func62, Try.ntmps62
  go_wp2_with fail
  refine (outside_any _ _ _ _).mono ?_
  rintro e w1 ⟨rfl, rfl⟩
  go_wp2_with fail
  go_ret
  exact ⟨rfl, rfl⟩

def axisF (n : Int) : Int := if outB n 0 2 then 4 else 0
theorem inB_out (n a b : Int) : inB n a b = !outB n a b := by
  unfold inB outB
  by_cases h1 : n < a <;> by_cases h2 : b < n <;> simp [h1, h2] <;> omega
theorem axisFault_any (n : Int) (w : World) : Calls Try.prog 22 #[.int .i64 n] w fun e w' => e = .returned (.int .i64 (axisF n)) ∧ w = w' := by
  cases h : outB n 0 2 with
  | true =>
    have h2 := hide (inB_out n 0 2)
    simp only [Hid, h, Bool.not_true] at h2
    have hA : Hid (axisF n = 4) := by rw [Hid]; unfold axisF; rw [h]; rfl
    replace h2 := hide h2
    clear h
    go_enter Try.func22, Try.ntmps22
    go_wp2_with fail
    refine (in_any _ _ _ _).mono ?_
    rintro e w1 ⟨rfl, rfl⟩
    rw [h2.out]
    go_wp2_with fail
    go_ret
    exact ⟨ret_int hA.out.symm, rfl⟩
  | false =>
    have h2 := hide (inB_out n 0 2)
    simp only [Hid, h, Bool.not_false] at h2
    have hA : Hid (axisF n = 0) := by rw [Hid]; unfold axisF; rw [h]; rfl
    replace h2 := hide h2
    clear h
    go_enter Try.func22, Try.ntmps22
    go_wp2_with fail
    refine (in_any _ _ _ _).mono ?_
    rintro e w1 ⟨rfl, rfl⟩
    rw [h2.out]
    go_wp2_with fail
    go_ret
    exact ⟨ret_int hA.out.symm, rfl⟩

/-- turned by a quarter -/
def qV (axis : Int) (v : V3) : V3 := if axis = 0 then ⟨v.x, -v.z, v.y⟩ else if axis = 1 then ⟨v.z, v.y, -v.x⟩ else ⟨-v.y, v.x, v.z⟩
theorem qV_bd {axis : Int} {v : V3} {K : Int} (h : Bd K v) : Bd K (qV axis v) := by
  unfold qV
  obtain ⟨⟨h1, h2⟩, ⟨h3, h4⟩, h5, h6⟩ := h
  split
  · exact ⟨⟨h1, h2⟩, ⟨by simp only; omega, by simp only; omega⟩, h3, h4⟩
  · split
    · exact ⟨⟨h5, h6⟩, ⟨h3, h4⟩, by simp only; omega, by simp only; omega⟩
    · exact ⟨⟨by simp only; omega, by simp only; omega⟩, ⟨h1, h2⟩, h5, h6⟩

theorem quarter_any (v : V3) (axis : Int) (w : World) (hv : Bd 100000 v) :
    Calls Try.prog 66 #[.agg #[.int .i64 v.x, .int .i64 v.y, .int .i64 v.z], .int .i64 axis] w fun e w' => e = .returned (.agg #[.int .i64 (qV axis v).x, .int .i64 (qV axis v).y, .int .i64 (qV axis v).z]) ∧ w.grownBy w' none := by
  obtain ⟨⟨h1, h2⟩, ⟨h3, h4⟩, h5, h6⟩ := hv
  by_cases a0 : axis = 0
  · have hq : Hid (qV axis v = ⟨v.x, -v.z, v.y⟩) := by rw [Hid]; unfold qV; rw [if_pos a0]
    subst a0
    generalize qV 0 v = R at *
    go_enter Try.func66, Try.ntmps66
    go_wp2_with fail
    have hgs := gr_alloc (gr_alloc (r := none) (World.grownBy.refl w none) (.cells #[.int .i64 v.x, .int .i64 v.y, .int .i64 v.z] 49)) (.cells #[.int .i64 ((⟨v.x, -v.z, v.y⟩ : V3)).x, .int .i64 ((⟨v.x, -v.z, v.y⟩ : V3)).y, .int .i64 ((⟨v.x, -v.z, v.y⟩ : V3)).z] 49)
    exact bodyPost_ret (v := .agg #[.int .i64 ((⟨v.x, -v.z, v.y⟩ : V3)).x, .int .i64 ((⟨v.x, -v.z, v.y⟩ : V3)).y, .int .i64 ((⟨v.x, -v.z, v.y⟩ : V3)).z]) (by simp [results, Try.results66, go_sem]) rfl ⟨by rw [hq.out], hgs⟩
  · by_cases a1 : axis = 1
    · have hq : Hid (qV axis v = ⟨v.z, v.y, -v.x⟩) := by rw [Hid]; unfold qV; rw [if_neg a0, if_pos a1]
      subst a1
      generalize qV 1 v = R at *
      go_enter Try.func66, Try.ntmps66
      go_wp2_with fail
      have hgs := gr_alloc (gr_alloc (r := none) (World.grownBy.refl w none) (.cells #[.int .i64 v.x, .int .i64 v.y, .int .i64 v.z] 49)) (.cells #[.int .i64 ((⟨v.z, v.y, -v.x⟩ : V3)).x, .int .i64 ((⟨v.z, v.y, -v.x⟩ : V3)).y, .int .i64 ((⟨v.z, v.y, -v.x⟩ : V3)).z] 49)
      exact bodyPost_ret (v := .agg #[.int .i64 ((⟨v.z, v.y, -v.x⟩ : V3)).x, .int .i64 ((⟨v.z, v.y, -v.x⟩ : V3)).y, .int .i64 ((⟨v.z, v.y, -v.x⟩ : V3)).z]) (by simp [results, Try.results66, go_sem]) rfl ⟨by rw [hq.out], hgs⟩
    · have hq : Hid (qV axis v = ⟨-v.y, v.x, v.z⟩) := by rw [Hid]; unfold qV; rw [if_neg a0, if_neg a1]
      have hb0 : (axis == 0) = false := beq_eq_false_iff_ne.2 a0
      have hb1 : (axis == 1) = false := beq_eq_false_iff_ne.2 a1
      generalize qV axis v = R at *
      clear a0 a1
      go_enter Try.func66, Try.ntmps66
      go_wp2_with fail
      have hgs := gr_alloc (gr_alloc (r := none) (World.grownBy.refl w none) (.cells #[.int .i64 v.x, .int .i64 v.y, .int .i64 v.z] 49)) (.cells #[.int .i64 ((⟨-v.y, v.x, v.z⟩ : V3)).x, .int .i64 ((⟨-v.y, v.x, v.z⟩ : V3)).y, .int .i64 ((⟨-v.y, v.x, v.z⟩ : V3)).z] 49)
      exact bodyPost_ret (v := .agg #[.int .i64 ((⟨-v.y, v.x, v.z⟩ : V3)).x, .int .i64 ((⟨-v.y, v.x, v.z⟩ : V3)).y, .int .i64 ((⟨-v.y, v.x, v.z⟩ : V3)).z]) (by simp [results, Try.results66, go_sem]) rfl ⟨by rw [hq.out], hgs⟩

def clampI (n : Int) : Int := max (-300000) (min n 300000)
theorem added_any (a n : Int) (w : World) (h : -100000 ≤ a ∧ a ≤ 100000) : Calls Try.prog 68 #[.int .i64 a, .int .i64 n] w fun e w' => e = .returned (.int .i64 (a + clampI n)) ∧ w = w' := by
  go_enter Try.func68, Try.ntmps68
  go_wp2
  all_goals (go_ret; exact ⟨ret_int (by unfold clampI; first | rfl | go_num | omega), rfl⟩)

end Go.Proofs.Ytjodjdjfagjiaaa
