/- Contracts of functions that this seat's laws reach, each: what one call returns and what it leaves in memory; no condition beyond each theorem's own hypotheses. -/
import Derived.Test.YtjodjdjfagjiaaaMeshBF
set_option linter.unusedVariables false
set_option linter.unusedSimpArgs false
namespace Go.Proofs.Ytjodjdjfagjiaaa
open Go.RowKit Go.Bl

def in3 (n : Int) : Bool := inB n (-300000) 300000
def allIn (t : V3) : Bool := in3 t.x && in3 t.y && in3 t.z
def movR (m : MeshV) (t : V3) : MeshV × Int := if allIn t = true then (okM ⟨m.vs.map (moveV t), m.fs⟩, meshF ⟨m.vs.map (moveV t), m.fs⟩) else (⟨[], []⟩, 1)
def moveR (m : MeshV) (t : V3) : MeshV × Int := if meshF m = 0 then (okM ⟨m.vs.map (moveV (clampV t)), m.fs⟩, meshF ⟨m.vs.map (moveV (clampV t)), m.fs⟩) else (⟨[], []⟩, meshF m)
theorem in3_bd {n : Int} (h : in3 n = true) : -300000 ≤ n ∧ n ≤ 300000 := by simpa [in3, inB] using h
theorem in3_no {n : Int} (h : in3 n = false) : n < -300000 ∨ 300000 < n := by
  simp [in3, inB] at h
  omega
theorem far1 {n x : Int} (h : in3 n = false) (hx : -100000 ≤ x ∧ x ≤ 100000) : farZ (x + clampI n) = true := by
  have e : clampI n = -300000 ∨ clampI n = 300000 := by
    rcases in3_no h with h | h
    · exact .inl (by unfold clampI; omega)
    · exact .inr (by unfold clampI; omega)
  unfold farZ
  rcases e with e | e <;> rw [e] <;> simp <;> omega
theorem move_far {t v : V3} (h : allIn t = false) (hv : Bd 100000 v) : farV (moveV (clampV t) v) = true := by
  obtain ⟨h1, h2, h3⟩ := hv
  unfold allIn at h
  have : in3 t.x = false ∨ in3 t.y = false ∨ in3 t.z = false := by
    cases hx : in3 t.x <;> cases hy : in3 t.y <;> cases hz : in3 t.z <;> simp [hx, hy, hz] at h ⊢
  unfold farV moveV clampV
  rcases this with e | e | e
  · simp only [far1 e h1, Bool.true_or]
  · simp only [far1 e h2, Bool.true_or, Bool.or_true]
  · simp only [far1 e h3, Bool.or_true]
theorem move_same {t : V3} (h : allIn t = true) : clampV t = t := by
  unfold allIn at h
  simp only [Bool.and_eq_true] at h
  have h1 := in3_bd h.1.1
  have h2 := in3_bd h.1.2
  have h3 := in3_bd h.2
  cases t
  simp only at h1 h2 h3
  simp only [clampV, clampI, V3.mk.injEq]
  omega
theorem move_eq {m : MeshV} {t : V3} (hM : meshF m = 0) : moveR m t = movR m t := by
  unfold moveR movR
  rw [if_pos hM]
  cases h : allIn t with
  | true => rw [if_pos rfl, move_same h]
  | false =>
    rw [if_neg (by simp)]
    obtain ⟨vs, fs⟩ := m
    obtain ⟨hbd, hvl, hfl, hf0, hv0⟩ := right_bd hM
    obtain ⟨v, r, rfl⟩ := List.exists_cons_of_ne_nil hv0
    have e : meshF ⟨(v :: r).map (moveV (clampV t)), fs⟩ = 1 := by
      refine meshF_far hf0 (by rw [List.length_map]; omega) ?_
      rw [List.map_cons, List.any_cons, move_far h (hbd v (List.mem_cons_self ..)), Bool.true_or]
    simp only
    rw [e, show okM ⟨(v :: r).map (moveV (clampV t)), fs⟩ = ⟨[], []⟩ by unfold okM; rw [if_neg (by rw [e]; decide)]]

set_option maxHeartbeats 1000000 in
set_option maxRecDepth 100000 in
theorem moved_any (A : Option Addr) (c : Nat) (vs : List V3) (B : Option Addr) (d : Nat) (fs : List Fc) (t : V3) (w : World) (hl : Sl w 0 A vs) (hfs : Sl w 0 B fs) :
    Calls Try.prog 20 #[.agg #[.slice A vs.length c, .slice B fs.length d], .agg #[.int .i64 t.x, .int .i64 t.y, .int .i64 t.z]] w (SMeshE w.heap.size (moveR ⟨vs, fs⟩ t).1 (moveR ⟨vs, fs⟩ t).2 w) := by
  have hmf : ∀ (fn : Fn) (first cap : Array Value) (w : World), (Instr.makeFunc fn first cap).run Try.prog w = .ok (.func fn first cap) w := fun _ _ _ _ => rfl
  obtain ⟨W, hW⟩ : ∃ W, W = ((w.alloc (.cells #[.slice A vs.length c, .slice B fs.length d] 29)).alloc (.cells #[.int .i64 t.x, .int .i64 t.y, .int .i64 t.z] 49)).alloc (.cells #[.slice none 0 0, .slice none 0 0] 29) := ⟨_, rfl⟩
  have hlt0 : w.heap.size < w.heap.size + 1 := Nat.lt_succ_self _
  have hlt1 : w.heap.size < w.heap.size + 1 + 1 := by omega
  have hWs : W.heap.size = w.heap.size + 1 + 1 + 1 := by rw [hW]; simp
  have hg0 : w.grownBy W none := by rw [hW]; exact (by repeat (first | exact World.grownBy.refl _ _ | assumption | refine gr_alloc ?_ _ | (apply gr_tail; assumption) | refine gr_drewN ?_ _ | refine gr_drew ?_))
  have b0 : W.cell? ⟨w.heap.size, 0, none⟩ = some (.slice A vs.length c) := by rw [hW]; go_simp
  have b1 : W.cell? ⟨w.heap.size, 1, none⟩ = some (.slice B fs.length d) := by rw [hW]; go_simp
  have t0 : W.cell? ⟨w.heap.size + 1, 0, none⟩ = some (.int .i64 t.x) := by rw [hW]; go_simp
  have t1 : W.cell? ⟨w.heap.size + 1, 1, none⟩ = some (.int .i64 t.y) := by rw [hW]; go_simp
  have t2 : W.cell? ⟨w.heap.size + 1, 2, none⟩ = some (.int .i64 t.z) := by rw [hW]; go_simp
  have q0 : Cell W (w.heap.size + 1 + 1) 0 (.slice none 0 0) := by rw [hW]; exact ⟨by go_simp, by go_simp⟩
  have q1 : Cell W (w.heap.size + 1 + 1) 1 (.slice none 0 0) := by rw [hW]; exact ⟨by go_simp, by go_simp⟩
  replace hW := hide hW.symm
  replace hWs := hide hWs
  have hlW := hl.pure hg0
  have hfW := hfs.pure hg0
  have hCM := checkMesh_any A c vs B d fs W hlW hfW
  by_cases hM : meshF ⟨vs, fs⟩ = 0
  · rw [hM] at hCM
    replace hCM := hide hCM
    rw [show moveR ⟨vs, fs⟩ t = (okM ⟨vs.map (moveV (clampV t)), fs⟩, meshF ⟨vs.map (moveV (clampV t)), fs⟩) by unfold moveR; rw [if_pos hM]]
    obtain ⟨hbd, hvl, hfl, _, _⟩ := right_bd hM
    have hcl : ∀ w1, W.grownBy w1 none → Hid (∀ v ∈ vs, ∀ wx, w1.grownBy wx none → Calls Try.prog 67 #[.agg #[.int .i64 v.x, .int .i64 v.y, .int .i64 v.z], .pointer (some ⟨w.heap.size + 1, 0, none⟩)] wx fun e w' => e = .returned (.agg #[.int .i64 (moveV (clampV t) v).x, .int .i64 (moveV (clampV t) v).y, .int .i64 (moveV (clampV t) v).z]) ∧ wx.grownBy w' none) :=
      fun w1 hg v hv wx hx => moveClo_any _ t v wx (hbd v hv) ((gr_trans hg hx).k t0) ((gr_trans hg hx).k t1) ((gr_trans hg hx).k t2)
    replace hcl := hide hcl
    replace hbd := hide hbd
    clear hM
    go_enter Try.func20, Try.ntmps20
    go_wp2_with fail
    rw [hW.out]
    refine hCM.out.mono ?_
    rintro e w1 ⟨rfl, hg1⟩
    replace b0 := hg1.k b0
    replace b1 := hg1.k b1
    replace q0 := hide (q0.gr hg1 (by simp))
    replace q1 := hide (q1.gr hg1 (by simp))
    have hg2 := gr_trans hg0 hg1
    go_wp2_with fail
    refine (mapMove_any (moveV (clampV t)) _ A c vs B d fs _ (hlW.pure hg1) (hfW.pure hg1) hvl hfl (hcl.out _ hg1)).mono ?_
    rintro e w2 ⟨A2, c2, B2, d2, rfl, hA2, hB2, -, hg3⟩
    replace q0 := hide (q0.out.gr hg3 (by simp))
    replace q1 := hide (q1.out.gr hg3 (by simp))
    have hgX := gr_trans hg2 hg3
    have hlm : (vs.map (moveV (clampV t))).length = vs.length := List.length_map _
    have hsz1 := hg1.size
    have hR := checked_any A2 c2 (vs.map (moveV (clampV t))) B2 d2 fs w2 w1.heap.size hA2.sl hB2.sl
    rw [hlm] at hR
    replace hR := hide hR
    clear hg2 hcl hCM hW
    go_wp2_with fail
    refine hR.out.mono ?_
    rintro e w9 ⟨A9, c9, B9, d9, rfl, s1, s2, hg9⟩
    obtain ⟨x0, y0⟩ := q0.out.gr hg9 (by simp)
    obtain ⟨x1, y1⟩ := q1.out.gr hg9 (by simp)
    have hg2 := gr_trans hgX hg9
    have hWl := hWs.out
    clear hR
    go_wp2_with fail
    have hk := fun (v1 v2 : Value) => gr_set (gr_set hg2 (p := ⟨w.heap.size + 1 + 1, 0, none⟩) (.inr (by simp only; omega)) v1) (p := ⟨w.heap.size + 1 + 1, 1, none⟩) (.inr (by simp only; omega)) v2
    have hgs := fun (v1 v2 : Value) => gr_set (gr_set (World.grownBy.refl w9 (some (w.heap.size + 1 + 1))) (p := ⟨w.heap.size + 1 + 1, 0, none⟩) (.inl rfl) v1) (p := ⟨w.heap.size + 1 + 1, 1, none⟩) (.inl rfl) v2
    refine bodyPost_ret (v := .tuple #[.agg #[.slice A9 (okM ⟨vs.map (moveV (clampV t)), fs⟩).vs.length c9, .slice B9 (okM ⟨vs.map (moveV (clampV t)), fs⟩).fs.length d9], .int .i64 (meshF ⟨vs.map (moveV (clampV t)), fs⟩)]) (by simp [results, Try.results20, go_sem, x0, x1, y0, y1]) rfl ⟨A9, c9, B9, d9, rfl, (s1.gr (hgs _ _) (fun g e => by injection e; omega)).mono (by omega), (s2.gr (hgs _ _) (fun g e => by injection e; omega)).mono (by omega), hk _ _⟩
  · rw [show moveR ⟨vs, fs⟩ t = (⟨[], []⟩, meshF ⟨vs, fs⟩) by unfold moveR; rw [if_neg hM]]
    generalize meshF ⟨vs, fs⟩ = F at *
    replace hCM := hide hCM
    go_enter Try.func20, Try.ntmps20
    go_wp2_with fail
    rw [hW.out]
    refine hCM.out.mono ?_
    rintro e w1 ⟨rfl, hg1⟩
    obtain ⟨x0, y0⟩ := q0.gr hg1 (by simp)
    obtain ⟨x1, y1⟩ := q1.gr hg1 (by simp)
    have hg2 := gr_trans hg0 hg1
    go_wp2_with fail
    have hk := fun (v1 v2 : Value) => gr_set (gr_set hg2 (p := ⟨w.heap.size + 1 + 1, 0, none⟩) (.inr (by simp only; omega)) v1) (p := ⟨w.heap.size + 1 + 1, 1, none⟩) (.inr (by simp only; omega)) v2
    exact bodyPost_ret (v := .tuple #[.agg #[.slice none 0 0, .slice none 0 0], .int .i64 (F)]) (by simp [results, Try.results20, go_sem, x0, x1, y0, y1]) rfl ⟨none, 0, none, 0, rfl, slNil _ _ _, slNil _ _ _, hk _ _⟩

set_option maxHeartbeats 1000000 in
set_option maxRecDepth 100000 in
theorem movedRef_any (A : Option Addr) (c : Nat) (vs : List V3) (B : Option Addr) (d : Nat) (fs : List Fc) (t : V3) (w : World) (hl : Sl w 0 A vs) (hfs : Sl w 0 B fs) (hM : meshF ⟨vs, fs⟩ = 0) :
    Calls Try.prog 24 #[.agg #[.slice A vs.length c, .slice B fs.length d], .agg #[.int .i64 t.x, .int .i64 t.y, .int .i64 t.z]] w (SMeshE w.heap.size (movR ⟨vs, fs⟩ t).1 (movR ⟨vs, fs⟩ t).2 w) := by
  have hmf : ∀ (fn : Fn) (first cap : Array Value) (w : World), (Instr.makeFunc fn first cap).run Try.prog w = .ok (.func fn first cap) w := fun _ _ _ _ => rfl
  obtain ⟨W, hW⟩ : ∃ W, W = ((w.alloc (.cells #[.slice A vs.length c, .slice B fs.length d] 29)).alloc (.cells #[.int .i64 t.x, .int .i64 t.y, .int .i64 t.z] 49)).alloc (.cells #[.slice none 0 0, .slice none 0 0] 29) := ⟨_, rfl⟩
  have hlt0 : w.heap.size < w.heap.size + 1 := Nat.lt_succ_self _
  have hlt1 : w.heap.size < w.heap.size + 1 + 1 := by omega
  have hWs : W.heap.size = w.heap.size + 1 + 1 + 1 := by rw [hW]; simp
  have hg0 : w.grownBy W none := by rw [hW]; exact (by repeat (first | exact World.grownBy.refl _ _ | assumption | refine gr_alloc ?_ _ | (apply gr_tail; assumption) | refine gr_drewN ?_ _ | refine gr_drew ?_))
  have b0 : W.cell? ⟨w.heap.size, 0, none⟩ = some (.slice A vs.length c) := by rw [hW]; go_simp
  have b1 : W.cell? ⟨w.heap.size, 1, none⟩ = some (.slice B fs.length d) := by rw [hW]; go_simp
  have t0 : W.cell? ⟨w.heap.size + 1, 0, none⟩ = some (.int .i64 t.x) := by rw [hW]; go_simp
  have t1 : W.cell? ⟨w.heap.size + 1, 1, none⟩ = some (.int .i64 t.y) := by rw [hW]; go_simp
  have t2 : W.cell? ⟨w.heap.size + 1, 2, none⟩ = some (.int .i64 t.z) := by rw [hW]; go_simp
  have q0 : Cell W (w.heap.size + 1 + 1) 0 (.slice none 0 0) := by rw [hW]; exact ⟨by go_simp, by go_simp⟩
  have q1 : Cell W (w.heap.size + 1 + 1) 1 (.slice none 0 0) := by rw [hW]; exact ⟨by go_simp, by go_simp⟩
  replace hW := hide hW.symm
  replace hWs := hide hWs
  have hlW := hl.pure hg0
  have hfW := hfs.pure hg0
  obtain ⟨hbd, hvl, hfl, _, hv0⟩ := right_bd hM
  have hv1 : 0 < vs.length := List.length_pos_iff.2 hv0
  replace hbd := hide hbd
  clear hM
  go_enter Try.func24, Try.ntmps24
  go_wp2_with fail
  rw [hW.out]
  clear hW
  have hal := gr_alloc (r := none) (World.grownBy.refl W none) (.cells #[.int .i64 t.x, .int .i64 t.y, .int .i64 t.z] 3)
  have l0 := (Cell.new W [.int .i64 t.x, .int .i64 t.y, .int .i64 t.z] 3 0 _ rfl (w.heap.size + 1 + 1 + 1) hWs.out.symm).1
  have l1 := (Cell.new W [.int .i64 t.x, .int .i64 t.y, .int .i64 t.z] 3 1 _ rfl (w.heap.size + 1 + 1 + 1) hWs.out.symm).1
  have l2 := (Cell.new W [.int .i64 t.x, .int .i64 t.y, .int .i64 t.z] 3 2 _ rfl (w.heap.size + 1 + 1 + 1) hWs.out.symm).1
  simp only [List.toArray] at l0 l1 l2
  have hg2 := gr_trans hg0 hal
  replace b0 := hal.k b0
  replace b1 := hal.k b1
  replace t0 := hal.k t0
  replace t1 := hal.k t1
  replace t2 := hal.k t2
  replace q0 := q0.gr hal (by simp)
  replace q1 := q1.gr hal (by simp)
  replace hlW := hlW.pure hal
  replace hfW := hfW.pure hal
  have hlz := hal.size
  clear hal
  generalize (W.alloc (.cells #[.int .i64 t.x, .int .i64 t.y, .int .i64 t.z] 3)) = Wc at *
  go_loop [16] (fun i => ∃ k : Nat, k ≤ 3 ∧ i = .int .i64 k ∧ Hid (0 < k → in3 t.x = true) ∧ Hid (1 < k → in3 t.y = true) ∧ Hid (2 < k → in3 t.z = true)) (fun i => 3 - (intOf i).toNat)
  case atStart => exact ⟨0, by omega, rfl, fun h => by omega, fun h => by omega, fun h => by omega⟩
  case round =>
    obtain ⟨k, hk, rfl, h0, h1, h2⟩ := hrel
    have hk4 : k = 0 ∨ k = 1 ∨ k = 2 ∨ k = 3 := by omega
    rcases hk4 with rfl | rfl | rfl | rfl
    · cases hz : in3 t.x with
      | true =>
        have hz2 : Hid (inB t.x (-300000) 300000 = true) := hz
        replace hz := hide hz
        go_wp2_with fail
        refine (in_any _ _ _ _).mono ?_
        rintro e w1 ⟨rfl, rfl⟩
        rw [hz2.out]
        go_wp2_with fail
        go_round
        case rel => exact ⟨1, by omega, by rfl, (by first | exact fun _ => hz.out | exact fun _ => trivial), fun h => by omega, fun h => by omega⟩
        case measure => simp [intOf]
      | false =>
        have hz2 : Hid (inB t.x (-300000) 300000 = false) := hz
        have hA : allIn t = false := by unfold allIn; rw [hz]; simp
        have hRe := hide (show movR ⟨vs, fs⟩ t = (⟨[], []⟩, 1) by unfold movR; rw [if_neg (by rw [hA]; simp)])
        clear hz hA
        go_wp2_with fail
        refine (in_any _ _ _ _).mono ?_
        rintro e w1 ⟨rfl, rfl⟩
        rw [hz2.out]
        obtain ⟨x0, y0⟩ := q0
        obtain ⟨x1, y1⟩ := q1
        go_wp2_with fail
        have hk := fun (v1 v2 : Value) => gr_set (gr_set hg2 (p := ⟨w.heap.size + 1 + 1, 0, none⟩) (.inr (by simp only; omega)) v1) (p := ⟨w.heap.size + 1 + 1, 1, none⟩) (.inr (by simp only; omega)) v2
        exact bodyPost_ret (v := .tuple #[.agg #[.slice none 0 0, .slice none 0 0], .int .i64 1]) (by simp [results, Try.results24, go_sem, x0, x1, y0, y1]) rfl (by rw [hRe.out]; exact ⟨none, 0, none, 0, rfl, slNil _ _ _, slNil _ _ _, hk _ _⟩)
    · cases hz : in3 t.y with
      | true =>
        have hz2 : Hid (inB t.y (-300000) 300000 = true) := hz
        replace hz := hide hz
        go_wp2_with fail
        refine (in_any _ _ _ _).mono ?_
        rintro e w1 ⟨rfl, rfl⟩
        rw [hz2.out]
        go_wp2_with fail
        go_round
        case rel => exact ⟨2, by omega, by rfl, fun _ => h0.out (by omega), (by first | exact fun _ => hz.out | exact fun _ => trivial), fun h => by omega⟩
        case measure => simp [intOf]
      | false =>
        have hz2 : Hid (inB t.y (-300000) 300000 = false) := hz
        have hA : allIn t = false := by unfold allIn; rw [hz]; simp
        have hRe := hide (show movR ⟨vs, fs⟩ t = (⟨[], []⟩, 1) by unfold movR; rw [if_neg (by rw [hA]; simp)])
        clear hz hA
        go_wp2_with fail
        refine (in_any _ _ _ _).mono ?_
        rintro e w1 ⟨rfl, rfl⟩
        rw [hz2.out]
        obtain ⟨x0, y0⟩ := q0
        obtain ⟨x1, y1⟩ := q1
        go_wp2_with fail
        have hk := fun (v1 v2 : Value) => gr_set (gr_set hg2 (p := ⟨w.heap.size + 1 + 1, 0, none⟩) (.inr (by simp only; omega)) v1) (p := ⟨w.heap.size + 1 + 1, 1, none⟩) (.inr (by simp only; omega)) v2
        exact bodyPost_ret (v := .tuple #[.agg #[.slice none 0 0, .slice none 0 0], .int .i64 1]) (by simp [results, Try.results24, go_sem, x0, x1, y0, y1]) rfl (by rw [hRe.out]; exact ⟨none, 0, none, 0, rfl, slNil _ _ _, slNil _ _ _, hk _ _⟩)
    · cases hz : in3 t.z with
      | true =>
        have hz2 : Hid (inB t.z (-300000) 300000 = true) := hz
        replace hz := hide hz
        go_wp2_with fail
        refine (in_any _ _ _ _).mono ?_
        rintro e w1 ⟨rfl, rfl⟩
        rw [hz2.out]
        go_wp2_with fail
        go_round
        case rel => exact ⟨3, by omega, by rfl, fun _ => h0.out (by omega), fun _ => h1.out (by omega), (by first | exact fun _ => hz.out | exact fun _ => trivial)⟩
        case measure => simp [intOf]
      | false =>
        have hz2 : Hid (inB t.z (-300000) 300000 = false) := hz
        have hA : allIn t = false := by unfold allIn; rw [hz]; simp
        have hRe := hide (show movR ⟨vs, fs⟩ t = (⟨[], []⟩, 1) by unfold movR; rw [if_neg (by rw [hA]; simp)])
        clear hz hA
        go_wp2_with fail
        refine (in_any _ _ _ _).mono ?_
        rintro e w1 ⟨rfl, rfl⟩
        rw [hz2.out]
        obtain ⟨x0, y0⟩ := q0
        obtain ⟨x1, y1⟩ := q1
        go_wp2_with fail
        have hk := fun (v1 v2 : Value) => gr_set (gr_set hg2 (p := ⟨w.heap.size + 1 + 1, 0, none⟩) (.inr (by simp only; omega)) v1) (p := ⟨w.heap.size + 1 + 1, 1, none⟩) (.inr (by simp only; omega)) v2
        exact bodyPost_ret (v := .tuple #[.agg #[.slice none 0 0, .slice none 0 0], .int .i64 1]) (by simp [results, Try.results24, go_sem, x0, x1, y0, y1]) rfl (by rw [hRe.out]; exact ⟨none, 0, none, 0, rfl, slNil _ _ _, slNil _ _ _, hk _ _⟩)
    · have hA : allIn t = true := by unfold allIn; rw [h0.out (by omega), h1.out (by omega), h2.out (by omega)]; rfl
      have hRe := hide (show movR ⟨vs, fs⟩ t = (okM ⟨vs.map (moveV t), fs⟩, meshF ⟨vs.map (moveV t), fs⟩) by unfold movR; rw [if_pos hA])
      have htb : Bd 300000 t := ⟨in3_bd (h0.out (by omega)), in3_bd (h1.out (by omega)), in3_bd (h2.out (by omega))⟩
      have hR := hide (madeMove_any (moveV t) (w.heap.size + 1) A c vs B d fs Wc hlW hfW hvl hfl
        (fun v hv wx hx => moveRef_any _ t v wx (hbd.out v hv) htb (hx.k t0) (hx.k t1) (hx.k t2)))
      clear h0 h1 h2 htb hA hbd
      replace q0 := hide q0
      replace q1 := hide q1
      go_wp2_with fail
      refine hR.out.mono ?_
      rintro e w9 ⟨A9, c9, B9, d9, rfl, s1, s2, hg9⟩
      obtain ⟨x0, y0⟩ := q0.out.gr hg9 (by simp)
      obtain ⟨x1, y1⟩ := q1.out.gr hg9 (by simp)
      have hg3 := gr_trans hg2 hg9
      have hWl := hWs.out
      clear hR
      go_wp2_with fail
      have hk := fun (v1 v2 : Value) => gr_set (gr_set hg3 (p := ⟨w.heap.size + 1 + 1, 0, none⟩) (.inr (by simp only; omega)) v1) (p := ⟨w.heap.size + 1 + 1, 1, none⟩) (.inr (by simp only; omega)) v2
      have hgs := fun (v1 v2 : Value) => gr_set (gr_set (World.grownBy.refl w9 (some (w.heap.size + 1 + 1))) (p := ⟨w.heap.size + 1 + 1, 0, none⟩) (.inl rfl) v1) (p := ⟨w.heap.size + 1 + 1, 1, none⟩) (.inl rfl) v2
      exact bodyPost_ret (v := .tuple #[.agg #[.slice A9 (okM ⟨vs.map (moveV t), fs⟩).vs.length c9, .slice B9 (okM ⟨vs.map (moveV t), fs⟩).fs.length d9], .int .i64 (meshF ⟨vs.map (moveV t), fs⟩)]) (by simp [results, Try.results24, go_sem, x0, x1, y0, y1]) rfl (by rw [hRe.out]; exact ⟨A9, c9, B9, d9, rfl, (s1.gr (hgs _ _) (fun g e => by injection e; omega)).mono (by omega), (s2.gr (hgs _ _) (fun g e => by injection e; omega)).mono (by omega), hk _ _⟩)

end Go.Proofs.Ytjodjdjfagjiaaa
