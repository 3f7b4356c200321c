/- Contracts of functions that this seat's laws reach, each: what one call returns and what it leaves in memory; no condition beyond each theorem's own hypotheses. -/
import Derived.Test.YtjodjdjfagjiaaaMeshBE
set_option linter.unusedVariables false
set_option linter.unusedSimpArgs false
namespace Go.Proofs.Ytjodjdjfagjiaaa
open Go.RowKit Go.Bl

theorem right_bd {vs : List V3} {fs : List Fc} (h : meshF ⟨vs, fs⟩ = 0) : (∀ v ∈ vs, Bd 100000 v) ∧ vs.length ≤ 1000 ∧ fs.length ≤ 1000 ∧ fs ≠ [] ∧ vs ≠ [] := by
  by_cases h1 : fs = []
  · rw [meshF_none h1] at h; cases h
  by_cases h2 : 1000 < vs.length ∨ 1000 < fs.length
  · rw [meshF_large h1 h2] at h; cases h
  cases h3 : vs.any farV with
  | true => rw [meshF_far h1 h2 h3] at h; cases h
  | false =>
    by_cases h4 : facesF vs fs = 0
    · refine ⟨fun v hv => farV_no (by have := List.any_eq_false.1 h3 v hv; simpa using this), by omega, by omega, h1, ?_⟩
      rintro rfl
      obtain ⟨f, r, rfl⟩ := List.exists_cons_of_ne_nil h1
      have := faceF_in (facesF_mem h4 f (List.mem_cons_self ..))
      simp only [inF, inI, List.length_nil, Bool.and_eq_true, decide_eq_true_eq] at this
      omega
    · rw [meshF_face h1 h2 h3 h4] at h; exact absurd h h4

def turnR (m : MeshV) (axis q : Int) : MeshV × Int :=
  if meshF m = 0 then (if outB axis 0 2 = true then (⟨[], []⟩, 4) else if outB q 0 3 = true then (⟨[], []⟩, 1) else (okM ⟨m.vs.map (turnV axis q.toNat), m.fs⟩, meshF ⟨m.vs.map (turnV axis q.toNat), m.fs⟩)) else (⟨[], []⟩, meshF m)

set_option maxHeartbeats 1000000 in
set_option maxRecDepth 100000 in
theorem turned_any (A : Option Addr) (c : Nat) (vs : List V3) (B : Option Addr) (d : Nat) (fs : List Fc) (axis q : Int) (w : World) (hl : Sl w 0 A vs) (hfs : Sl w 0 B fs) :
    Calls Try.prog 19 #[.agg #[.slice A vs.length c, .slice B fs.length d], .int .i64 axis, .int .i64 q] w (SMeshE w.heap.size (turnR ⟨vs, fs⟩ axis q).1 (turnR ⟨vs, fs⟩ axis q).2 w) := by
  have hmf : ∀ (fn : Fn) (first cap : Array Value) (w : World), (Instr.makeFunc fn first cap).run Try.prog w = .ok (.func fn first cap) w := fun _ _ _ _ => rfl
  obtain ⟨W, hW⟩ : ∃ W, W = (((w.alloc (.cells #[.slice A vs.length c, .slice B fs.length d] 29)).alloc (.cells #[.int .i64 axis] 3)).alloc (.cells #[.int .i64 q] 3)).alloc (.cells #[.slice none 0 0, .slice none 0 0] 29) := ⟨_, rfl⟩
  have hlt0 : w.heap.size < w.heap.size + 1 := Nat.lt_succ_self _
  have hlt1 : w.heap.size < w.heap.size + 1 + 1 := by omega
  have hlt2 : w.heap.size < w.heap.size + 1 + 1 + 1 := by omega
  have hlt3 : w.heap.size + 1 < w.heap.size + 1 + 1 + 1 := by omega
  have hWs : W.heap.size = w.heap.size + 1 + 1 + 1 + 1 := by rw [hW]; simp
  have hg0 : w.grownBy W none := by rw [hW]; exact (by repeat (first | exact World.grownBy.refl _ _ | assumption | refine gr_alloc ?_ _ | (apply gr_tail; assumption) | refine gr_drewN ?_ _ | refine gr_drew ?_))
  have b0 : W.cell? ⟨w.heap.size, 0, none⟩ = some (.slice A vs.length c) := by rw [hW]; go_simp
  have b1 : W.cell? ⟨w.heap.size, 1, none⟩ = some (.slice B fs.length d) := by rw [hW]; go_simp
  have ba : W.cell? ⟨w.heap.size + 1, 0, none⟩ = some (.int .i64 axis) := by rw [hW]; go_simp
  have bq : W.cell? ⟨w.heap.size + 1 + 1, 0, none⟩ = some (.int .i64 q) := by rw [hW]; go_simp
  have q0 : Cell W (w.heap.size + 1 + 1 + 1) 0 (.slice none 0 0) := by rw [hW]; exact ⟨by go_simp, by go_simp⟩
  have q1 : Cell W (w.heap.size + 1 + 1 + 1) 1 (.slice none 0 0) := by rw [hW]; exact ⟨by go_simp, by go_simp⟩
  replace hW := hide hW.symm
  replace hWs := hide hWs
  have hlW := hl.pure hg0
  have hfW := hfs.pure hg0
  have hCM := checkMesh_any A c vs B d fs W hlW hfW
  by_cases hM : meshF ⟨vs, fs⟩ = 0
  · rw [hM] at hCM
    replace hCM := hide hCM
    cases hax : outB axis 0 2 with
    | true =>
      rw [show turnR ⟨vs, fs⟩ axis q = (⟨[], []⟩, 4) by unfold turnR; rw [if_pos hM, if_pos hax]]
      replace hax := hide hax
      clear hM
      go_enter Try.func19, Try.ntmps19
      go_wp2_with fail
      rw [hW.out]
      refine hCM.out.mono ?_
      rintro e w1 ⟨rfl, hg1⟩
      replace ba := hg1.k ba
      obtain ⟨x0, y0⟩ := q0.gr hg1 (by simp)
      obtain ⟨x1, y1⟩ := q1.gr hg1 (by simp)
      have hg2 := gr_trans hg0 hg1
      go_wp2_with fail
      refine (isAxis_any _ _).mono ?_
      rintro e w2 ⟨rfl, rfl⟩
      rw [hax.out]
      go_wp2_with fail
      have hk := fun (v1 v2 : Value) => gr_set (gr_set hg2 (p := ⟨w.heap.size + 1 + 1 + 1, 0, none⟩) (.inr (by simp only; omega)) v1) (p := ⟨w.heap.size + 1 + 1 + 1, 1, none⟩) (.inr (by simp only; omega)) v2
      exact bodyPost_ret (v := .tuple #[.agg #[.slice none 0 0, .slice none 0 0], .int .i64 (4)]) (by simp [results, Try.results19, go_sem, x0, x1, y0, y1]) rfl ⟨none, 0, none, 0, rfl, slNil _ _ _, slNil _ _ _, hk _ _⟩
    | false =>
      cases hqq : outB q 0 3 with
      | true =>
        rw [show turnR ⟨vs, fs⟩ axis q = (⟨[], []⟩, 1) by unfold turnR; rw [if_pos hM, if_neg (by rw [hax]; simp), if_pos hqq]]
        replace hax := hide hax
        replace hqq := hide hqq
        clear hM
        go_enter Try.func19, Try.ntmps19
        go_wp2_with fail
        rw [hW.out]
        refine hCM.out.mono ?_
        rintro e w1 ⟨rfl, hg1⟩
        replace ba := hg1.k ba
        replace bq := hg1.k bq
        obtain ⟨x0, y0⟩ := q0.gr hg1 (by simp)
        obtain ⟨x1, y1⟩ := q1.gr hg1 (by simp)
        have hg2 := gr_trans hg0 hg1
        go_wp2_with fail
        refine (isAxis_any _ _).mono ?_
        rintro e w2 ⟨rfl, rfl⟩
        rw [hax.out]
        go_wp2_with fail
        refine (outside_any _ _ _ _).mono ?_
        rintro e w2 ⟨rfl, rfl⟩
        rw [hqq.out]
        go_wp2_with fail
        have hk := fun (v1 v2 : Value) => gr_set (gr_set hg2 (p := ⟨w.heap.size + 1 + 1 + 1, 0, none⟩) (.inr (by simp only; omega)) v1) (p := ⟨w.heap.size + 1 + 1 + 1, 1, none⟩) (.inr (by simp only; omega)) v2
        exact bodyPost_ret (v := .tuple #[.agg #[.slice none 0 0, .slice none 0 0], .int .i64 (1)]) (by simp [results, Try.results19, go_sem, x0, x1, y0, y1]) rfl ⟨none, 0, none, 0, rfl, slNil _ _ _, slNil _ _ _, hk _ _⟩
      | false =>
        rw [show turnR ⟨vs, fs⟩ axis q = (okM ⟨vs.map (turnV axis q.toNat), fs⟩, meshF ⟨vs.map (turnV axis q.toNat), fs⟩) by unfold turnR; rw [if_pos hM, if_neg (by rw [hax]; simp), if_neg (by rw [hqq]; simp)]]
        obtain ⟨hbd, hvl, hfl, _, _⟩ := right_bd hM
        obtain ⟨n, rfl, hn⟩ : ∃ n : Nat, q = n ∧ n ≤ 3 := ⟨q.toNat, by simp [outB] at hqq; omega, by simp [outB] at hqq; omega⟩
        rw [Int.toNat_natCast]
        have hcl : ∀ w1, W.grownBy w1 none → Hid (∀ v ∈ vs, ∀ wx, w1.grownBy wx none → Calls Try.prog 65 #[.agg #[.int .i64 v.x, .int .i64 v.y, .int .i64 v.z], .pointer (some ⟨w.heap.size + 1 + 1, 0, none⟩), .pointer (some ⟨w.heap.size + 1, 0, none⟩)] wx fun e w' => e = .returned (.agg #[.int .i64 (turnV axis n v).x, .int .i64 (turnV axis n v).y, .int .i64 (turnV axis n v).z]) ∧ wx.grownBy w' none) :=
          fun w1 hg v hv wx hx => turnClo_any _ _ n axis v wx (hbd v hv) hn ((gr_trans hg hx).k bq) ((gr_trans hg hx).k ba)
        replace hcl := hide hcl
        replace hax := hide hax
        replace hqq := hide hqq
        replace hbd := hide hbd
        clear hM
        go_enter Try.func19, Try.ntmps19
        go_wp2_with fail
        rw [hW.out]
        refine hCM.out.mono ?_
        rintro e w1 ⟨rfl, hg1⟩
        have ba := hg1.k ba
        have bq := hg1.k bq
        replace b0 := hg1.k b0
        replace b1 := hg1.k b1
        replace q0 := hide (q0.gr hg1 (by simp))
        replace q1 := hide (q1.gr hg1 (by simp))
        have hg2 := gr_trans hg0 hg1
        go_wp2_with fail
        refine (isAxis_any _ _).mono ?_
        rintro e w2 ⟨rfl, rfl⟩
        rw [hax.out]
        go_wp2_with fail
        refine (outside_any _ _ _ _).mono ?_
        rintro e w2 ⟨rfl, rfl⟩
        rw [hqq.out]
        go_wp2_with fail
        refine (mapTurn_any (turnV axis n) _ _ A c vs B d fs _ (hlW.pure hg1) (hfW.pure hg1) hvl hfl (hcl.out _ hg1)).mono ?_
        rintro e w2 ⟨A2, c2, B2, d2, rfl, hA2, hB2, -, hg3⟩
        replace q0 := hide (q0.out.gr hg3 (by simp))
        replace q1 := hide (q1.out.gr hg3 (by simp))
        have hgX := gr_trans hg2 hg3
        have hlm : (vs.map (turnV axis n)).length = vs.length := List.length_map _
        have hsz1 := hg1.size
        have hR := checked_any A2 c2 (vs.map (turnV axis n)) B2 d2 fs w2 w1.heap.size hA2.sl hB2.sl
        rw [hlm] at hR
        replace hR := hide hR
        clear hg2 hcl hCM hW
        go_wp2_with fail
        refine hR.out.mono ?_
        rintro e w9 ⟨A9, c9, B9, d9, rfl, s1, s2, hg9⟩
        obtain ⟨x0, y0⟩ := q0.out.gr hg9 (by simp)
        obtain ⟨x1, y1⟩ := q1.out.gr hg9 (by simp)
        have hg2 := gr_trans hgX hg9
        have hWl := hWs.out
        clear hR
        go_wp2_with fail
        have hk := fun (v1 v2 : Value) => gr_set (gr_set hg2 (p := ⟨w.heap.size + 1 + 1 + 1, 0, none⟩) (.inr (by simp only; omega)) v1) (p := ⟨w.heap.size + 1 + 1 + 1, 1, none⟩) (.inr (by simp only; omega)) v2
        have hgs := fun (v1 v2 : Value) => gr_set (gr_set (World.grownBy.refl w9 (some (w.heap.size + 1 + 1 + 1))) (p := ⟨w.heap.size + 1 + 1 + 1, 0, none⟩) (.inl rfl) v1) (p := ⟨w.heap.size + 1 + 1 + 1, 1, none⟩) (.inl rfl) v2
        refine bodyPost_ret (v := .tuple #[.agg #[.slice A9 (okM ⟨vs.map (turnV axis n), fs⟩).vs.length c9, .slice B9 (okM ⟨vs.map (turnV axis n), fs⟩).fs.length d9], .int .i64 (meshF ⟨vs.map (turnV axis n), fs⟩)]) (by simp [results, Try.results19, go_sem, x0, x1, y0, y1]) rfl ⟨A9, c9, B9, d9, rfl, (s1.gr (hgs _ _) (fun g e => by injection e; omega)).mono (by omega), (s2.gr (hgs _ _) (fun g e => by injection e; omega)).mono (by omega), hk _ _⟩
  · rw [show turnR ⟨vs, fs⟩ axis q = (⟨[], []⟩, meshF ⟨vs, fs⟩) by unfold turnR; rw [if_neg hM]]
    generalize meshF ⟨vs, fs⟩ = F at *
    replace hCM := hide hCM
    go_enter Try.func19, Try.ntmps19
    go_wp2_with fail
    rw [hW.out]
    refine hCM.out.mono ?_
    rintro e w1 ⟨rfl, hg1⟩
    obtain ⟨x0, y0⟩ := q0.gr hg1 (by simp)
    obtain ⟨x1, y1⟩ := q1.gr hg1 (by simp)
    have hg2 := gr_trans hg0 hg1
    go_wp2_with fail
    have hk := fun (v1 v2 : Value) => gr_set (gr_set hg2 (p := ⟨w.heap.size + 1 + 1 + 1, 0, none⟩) (.inr (by simp only; omega)) v1) (p := ⟨w.heap.size + 1 + 1 + 1, 1, none⟩) (.inr (by simp only; omega)) v2
    exact bodyPost_ret (v := .tuple #[.agg #[.slice none 0 0, .slice none 0 0], .int .i64 (F)]) (by simp [results, Try.results19, go_sem, x0, x1, y0, y1]) rfl ⟨none, 0, none, 0, rfl, slNil _ _ _, slNil _ _ _, hk _ _⟩

set_option maxHeartbeats 1000000 in
set_option maxRecDepth 100000 in
theorem turnedRef_any (A : Option Addr) (c : Nat) (vs : List V3) (B : Option Addr) (d : Nat) (fs : List Fc) (axis : Int) (n : Nat) (w : World) (hl : Sl w 0 A vs) (hfs : Sl w 0 B fs) (hM : meshF ⟨vs, fs⟩ = 0) (hn : n ≤ 3) :
    Calls Try.prog 23 #[.agg #[.slice A vs.length c, .slice B fs.length d], .int .i64 axis, .int .i64 n] w (SMeshE w.heap.size (okM ⟨vs.map (turnV axis n), fs⟩) (meshF ⟨vs.map (turnV axis n), fs⟩) w) := by
  have hmf : ∀ (fn : Fn) (first cap : Array Value) (w : World), (Instr.makeFunc fn first cap).run Try.prog w = .ok (.func fn first cap) w := fun _ _ _ _ => rfl
  obtain ⟨q, hq⟩ : ∃ q : Int, q = n := ⟨_, rfl⟩
  rw [← hq]
  obtain ⟨W, hW⟩ : ∃ W, W = (((w.alloc (.cells #[.slice A vs.length c, .slice B fs.length d] 29)).alloc (.cells #[.int .i64 axis] 3)).alloc (.cells #[.int .i64 q] 3)).alloc (.cells #[.slice none 0 0, .slice none 0 0] 29) := ⟨_, rfl⟩
  have hlt0 : w.heap.size < w.heap.size + 1 := Nat.lt_succ_self _
  have hlt1 : w.heap.size < w.heap.size + 1 + 1 := by omega
  have hlt2 : w.heap.size < w.heap.size + 1 + 1 + 1 := by omega
  have hlt3 : w.heap.size + 1 < w.heap.size + 1 + 1 + 1 := by omega
  have hWs : W.heap.size = w.heap.size + 1 + 1 + 1 + 1 := by rw [hW]; simp
  have hg0 : w.grownBy W none := by rw [hW]; exact (by repeat (first | exact World.grownBy.refl _ _ | assumption | refine gr_alloc ?_ _ | (apply gr_tail; assumption) | refine gr_drewN ?_ _ | refine gr_drew ?_))
  have b0 : W.cell? ⟨w.heap.size, 0, none⟩ = some (.slice A vs.length c) := by rw [hW]; go_simp
  have b1 : W.cell? ⟨w.heap.size, 1, none⟩ = some (.slice B fs.length d) := by rw [hW]; go_simp
  have ba : W.cell? ⟨w.heap.size + 1, 0, none⟩ = some (.int .i64 axis) := by rw [hW]; go_simp
  have bq : W.cell? ⟨w.heap.size + 1 + 1, 0, none⟩ = some (.int .i64 q) := by rw [hW]; go_simp
  have q0 : Cell W (w.heap.size + 1 + 1 + 1) 0 (.slice none 0 0) := by rw [hW]; exact ⟨by go_simp, by go_simp⟩
  have q1 : Cell W (w.heap.size + 1 + 1 + 1) 1 (.slice none 0 0) := by rw [hW]; exact ⟨by go_simp, by go_simp⟩
  replace hW := hide hW.symm
  replace hWs := hide hWs
  have hlW := hl.pure hg0
  have hfW := hfs.pure hg0
  rw [hq] at bq
  obtain ⟨hbd, hvl, hfl, _, _⟩ := right_bd hM
  have hR := hide (madeTurn_any (turnV axis n) (w.heap.size + 1 + 1) (w.heap.size + 1) A c vs B d fs W hlW hfW hvl hfl
    (fun v hv wx hx => turnRef_any _ _ n axis v wx (hbd v hv) hn (hx.k bq) (hx.k ba)))
  clear hM
  replace hbd := hide hbd
  subst hq
  replace q0 := hide q0
  replace q1 := hide q1
  go_enter Try.func23, Try.ntmps23
  go_wp2_with fail
  rw [hW.out]
  refine hR.out.mono ?_
  rintro e w9 ⟨A9, c9, B9, d9, rfl, s1, s2, hg9⟩
  obtain ⟨x0, y0⟩ := q0.out.gr hg9 (by simp)
  obtain ⟨x1, y1⟩ := q1.out.gr hg9 (by simp)
  have hg2 := gr_trans hg0 hg9
  have hWl := hWs.out
  clear hR hW
  go_wp2_with fail
  have hk := fun (v1 v2 : Value) => gr_set (gr_set hg2 (p := ⟨w.heap.size + 1 + 1 + 1, 0, none⟩) (.inr (by simp only; omega)) v1) (p := ⟨w.heap.size + 1 + 1 + 1, 1, none⟩) (.inr (by simp only; omega)) v2
  have hgs := fun (v1 v2 : Value) => gr_set (gr_set (World.grownBy.refl w9 (some (w.heap.size + 1 + 1 + 1))) (p := ⟨w.heap.size + 1 + 1 + 1, 0, none⟩) (.inl rfl) v1) (p := ⟨w.heap.size + 1 + 1 + 1, 1, none⟩) (.inl rfl) v2
  refine bodyPost_ret (v := .tuple #[.agg #[.slice A9 (okM ⟨vs.map (turnV axis n), fs⟩).vs.length c9, .slice B9 (okM ⟨vs.map (turnV axis n), fs⟩).fs.length d9], .int .i64 (meshF ⟨vs.map (turnV axis n), fs⟩)]) (by simp [results, Try.results23, go_sem, x0, x1, y0, y1]) rfl ⟨A9, c9, B9, d9, rfl, (s1.gr (hgs _ _) (fun g e => by injection e; omega)).mono (by omega), (s2.gr (hgs _ _) (fun g e => by injection e; omega)).mono (by omega), hk _ _⟩

end Go.Proofs.Ytjodjdjfagjiaaa
