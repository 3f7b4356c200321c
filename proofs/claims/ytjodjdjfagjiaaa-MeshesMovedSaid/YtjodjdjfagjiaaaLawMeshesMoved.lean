/- Contracts of functions that this seat's laws reach, each: what one call returns and what it leaves in memory; no condition beyond each theorem's own hypotheses. -/
import Derived.Test.YtjodjdjfagjiaaaMeshBH
import Derived.Test.YtjodjdjfagjiaaaMeshAA
import Derived.Test.YtjodjdjfagjiaaaFlowB
set_option linter.unusedVariables false
set_option linter.unusedSimpArgs false
namespace Go.Proofs.Ytjodjdjfagjiaaa
open Go.RowKit Go.Bl

theorem turn_ok {m : MeshV} {axis q : Int} (h : orL [meshF m, axisF axis, spanF q 0 3] = 0) : meshF m = 0 ∧ ∃ n : Nat, q = n ∧ n ≤ 3 ∧ turnR m axis q = (okM ⟨m.vs.map (turnV axis n), m.fs⟩, meshF ⟨m.vs.map (turnV axis n), m.fs⟩) := by
  unfold orL orL orL orL axisF spanF at h
  by_cases h1 : meshF m = 0
  · cases h2 : outB axis 0 2 with
    | true => simp [h1, h2] at h
    | false =>
      cases h3 : outB q 0 3 with
      | true => simp [h1, h2, h3] at h
      | false =>
        refine ⟨h1, q.toNat, by simp [outB] at h3; omega, by simp [outB] at h3; omega, ?_⟩
        unfold turnR
        rw [if_pos h1, if_neg (by rw [h2]; simp), if_neg (by rw [h3]; simp)]
  · simp [h1] at h
theorem turn_bad {m : MeshV} {axis q : Int} (h : orL [meshF m, axisF axis, spanF q 0 3] ≠ 0) : turnR m axis q = (⟨[], []⟩, orL [meshF m, axisF axis, spanF q 0 3]) := by
  unfold turnR
  unfold orL orL orL orL axisF spanF at *
  by_cases h1 : meshF m = 0
  · cases h2 : outB axis 0 2 with
    | true => simp [h1, h2]
    | false =>
      cases h3 : outB q 0 3 with
      | true => simp [h1, h2, h3]
      | false => simp [h1, h2, h3] at h
  · simp [h1]
theorem mir_ok {m : MeshV} {axis : Int} (h : orL [meshF m, axisF axis] = 0) : meshF m = 0 ∧ mirR m axis = (okM ⟨m.vs.map (mirV axis), m.fs.map swp⟩, meshF ⟨m.vs.map (mirV axis), m.fs.map swp⟩) := by
  unfold orL orL orL axisF at h
  by_cases h1 : meshF m = 0
  · cases h2 : outB axis 0 2 with
    | true => simp [h1, h2] at h
    | false =>
      refine ⟨h1, ?_⟩
      unfold mirR
      rw [if_pos h1, if_neg (by rw [h2]; simp)]
      rfl
  · simp [h1] at h
theorem mir_bad {m : MeshV} {axis : Int} (h : orL [meshF m, axisF axis] ≠ 0) : mirR m axis = (⟨[], []⟩, orL [meshF m, axisF axis]) := by
  unfold mirR
  unfold orL orL orL axisF at *
  by_cases h1 : meshF m = 0
  · cases h2 : outB axis 0 2 with
    | true => simp [h1, h2]
    | false => simp [h1, h2] at h
  · simp [h1]

/-- a box that holds a mesh -/
def VMs (lo : Nat) (g : Nat) (m : MeshV) (w : World) : Prop := ∃ (A : Option Addr) (c : Nat) (B : Option Addr) (d : Nat), Cell w g 0 (.slice A m.vs.length c) ∧ Cell w g 1 (.slice B m.fs.length d) ∧ Sl w lo A m.vs ∧ Sl w lo B m.fs
theorem VMs.pure {lo g : Nat} {m : MeshV} {w w' : World} (h : VMs lo g m w) (hg : w.grownBy w' none) : VMs lo g m w' := let ⟨A, c, B, d, h1, h2, h3, h4⟩ := h; ⟨A, c, B, d, h1.gr hg (by simp), h2.gr hg (by simp), h3.pure hg, h4.pure hg⟩
theorem VMs.oth {lo g g' : Nat} {m : MeshV} {w w' : World} (h : VMs lo g m w) (hg : w.grownBy w' (some g')) (hne : g' ≠ g) (hlo : g' < lo) : VMs lo g m w' :=
  let ⟨A, c, B, d, h1, h2, h3, h4⟩ := h; ⟨A, c, B, d, h1.gr hg (fun e => by injection e; omega), h2.gr hg (fun e => by injection e; omega), h3.gr hg (fun x e => by injection e; omega), h4.gr hg (fun x e => by injection e; omega)⟩
theorem VMs.nil {lo g : Nat} {w : World} (h0 : Cell w g 0 (.slice none 0 0)) (h1 : Cell w g 1 (.slice none 0 0)) : VMs lo g ⟨[], []⟩ w := ⟨none, 0, none, 0, h0, h1, slNil _ _ _, slNil _ _ _⟩

set_option maxHeartbeats 4000000 in
set_option maxRecDepth 100000 in
theorem moved_law (A : Option Addr) (n c : Nat) (L : List Int) (w : World) (hL : Sl w 0 A L) (hn : L.length = n) :
    Calls Try.prog 4 #[.slice A n c] w fun e w' => e = .returned (.bool true) ∧ w.grownBy w' none := by
  have hs0 := strm_new (c := c) 25 hL hn
  have hg0 := gr_alloc (World.grownBy.refl w none) (.cells #[.slice A n c, .int .i64 0] 25)
  go_enter Try.func4, Try.ntmps4
  go_wp2_with fail
  refine (aMesh_any _ 0 _ hs0 (by omega)).mono ?_
  rintro e w1 ⟨A1, c1, vs, B1, d1, fs, rfl, hv, hf, hoA⟩
  go_wp2_with fail
  refine (pick_any _ _ _ _ _ [0, 1, 2, -1, 3] _ (hoA.2.pure (gr_alloc (World.grownBy.refl _ _) _)) (by omega) (sl_intsAt _ _ _ _ _ (by first | rfl | simp) (by have := hoA.2.lt; omega) (by simp [maxLen])) rfl (by simp)).mono ?_
  rintro e w2 ⟨axis, rfl, _, ho2⟩
  replace hv := (hv.pure (gr_alloc (World.grownBy.refl _ _) _)).s ho2 (Nat.lt_succ_self _)
  replace hf := (hf.pure (gr_alloc (World.grownBy.refl _ _) _)).s ho2 (Nat.lt_succ_self _)
  have hoB := (hoA.pure (gr_alloc (World.grownBy.refl _ _) _)).trans ho2
  clear ho2 hoA
  go_wp2_with fail
  refine (pick_any _ _ _ _ _ [0, 1, 2, 3, -1, 4] _ (hoB.2.pure (gr_alloc (World.grownBy.refl _ _) _)) (by omega) (sl_intsAt _ _ _ _ _ (by first | rfl | simp) (by have := hoB.2.lt; omega) (by simp [maxLen])) rfl (by simp)).mono ?_
  rintro e w3 ⟨q, rfl, _, ho3⟩
  replace hv := (hv.pure (gr_alloc (World.grownBy.refl _ _) _)).s ho3 (Nat.lt_succ_self _)
  replace hf := (hf.pure (gr_alloc (World.grownBy.refl _ _) _)).s ho3 (Nat.lt_succ_self _)
  have hoC := (hoB.pure (gr_alloc (World.grownBy.refl _ _) _)).trans ho3
  clear ho3 hoB
  go_wp2_with fail
  obtain ⟨W3, hW3⟩ : ∃ W3, W3 = w3.alloc (.cells #[.slice A1 vs.length c1, .slice B1 fs.length d1] 29) := ⟨_, rfl⟩
  have hg3 : w3.grownBy W3 none := by rw [hW3]; exact gr_alloc (World.grownBy.refl _ _) _
  have m0 : Cell W3 w3.heap.size 0 (.slice A1 vs.length c1) := by rw [hW3]; exact Cell.new w3 [.slice A1 vs.length c1, .slice B1 fs.length d1] 29 0 _ rfl _ rfl
  have m1 : Cell W3 w3.heap.size 1 (.slice B1 fs.length d1) := by rw [hW3]; exact Cell.new w3 [.slice A1 vs.length c1, .slice B1 fs.length d1] 29 1 _ rfl _ rfl
  have hs3 : w3.heap.size + 1 = W3.heap.size := by rw [hW3]; simp
  rw [← hW3]
  clear hW3
  replace hv := hv.pure hg3
  replace hf := hf.pure hg3
  have hoD := hoC.pure hg3
  have hbM : (some w.heap.size : Option Nat) ≠ some w3.heap.size := by have := hoC.1.size; simp at this; simp; omega
  clear hoC hg3
  refine (pick_any _ _ _ _ _ [0, 5, -70, 100000] _ (hoD.2.pure (gr_alloc (World.grownBy.refl _ _) _)) (by omega) (sl_intsAt _ _ _ _ _ (by first | rfl | exact hs3 | simp) (by have := hoD.2.lt; omega) (by simp [maxLen])) rfl (by simp)).mono ?_
  rintro e w4 ⟨tx, rfl, _, ho4⟩
  replace hv := (hv.pure (gr_alloc (World.grownBy.refl _ _) _)).s ho4 (Nat.lt_succ_self _)
  replace hf := (hf.pure (gr_alloc (World.grownBy.refl _ _) _)).s ho4 (Nat.lt_succ_self _)
  replace m0 := (m0.gr (gr_alloc (World.grownBy.refl _ none) _) (by simp)).gr (ho4).1 hbM
  replace m1 := (m1.gr (gr_alloc (World.grownBy.refl _ none) _) (by simp)).gr (ho4).1 hbM
  have hoE := ((hoD).pure (gr_alloc (World.grownBy.refl _ _) _)).trans ho4
  clear ho4 hoD
  go_wp2_with fail
  refine (pick_any _ _ _ _ _ [0, 9] _ (hoE.2.pure (gr_alloc (World.grownBy.refl _ _) _)) (by omega) (sl_intsAt _ _ _ _ _ (by first | rfl | simp) (by have := hoE.2.lt; omega) (by simp [maxLen])) rfl (by simp)).mono ?_
  rintro e w5 ⟨ty, rfl, _, ho5⟩
  replace hv := (hv.pure (gr_alloc (World.grownBy.refl _ _) _)).s ho5 (Nat.lt_succ_self _)
  replace hf := (hf.pure (gr_alloc (World.grownBy.refl _ _) _)).s ho5 (Nat.lt_succ_self _)
  replace m0 := (m0.gr (gr_alloc (World.grownBy.refl _ none) _) (by simp)).gr (ho5).1 hbM
  replace m1 := (m1.gr (gr_alloc (World.grownBy.refl _ none) _) (by simp)).gr (ho5).1 hbM
  have hoF := ((hoE).pure (gr_alloc (World.grownBy.refl _ _) _)).trans ho5
  clear ho5 hoE
  go_wp2_with fail
  refine (pick_any _ _ _ _ _ [0, -3, 4611686018427387904, -9223372036854775808] _ (hoF.2.pure (gr_alloc (World.grownBy.refl _ _) _)) (by omega) (sl_intsAt _ _ _ _ _ (by first | rfl | simp) (by have := hoF.2.lt; omega) (by simp [maxLen])) rfl (by simp)).mono ?_
  rintro e w6 ⟨tz, rfl, _, ho6⟩
  replace hv := (hv.pure (gr_alloc (World.grownBy.refl _ _) _)).s ho6 (Nat.lt_succ_self _)
  replace hf := (hf.pure (gr_alloc (World.grownBy.refl _ _) _)).s ho6 (Nat.lt_succ_self _)
  replace m0 := (m0.gr (gr_alloc (World.grownBy.refl _ none) _) (by simp)).gr (ho6).1 hbM
  replace m1 := (m1.gr (gr_alloc (World.grownBy.refl _ none) _) (by simp)).gr (ho6).1 hbM
  have hoG := ((hoF).pure (gr_alloc (World.grownBy.refl _ _) _)).trans ho6
  clear ho6 hoF
  have hgT : Hid (w.grownBy w6 none) := gr_new hg0 hoG.1 (Nat.le_refl _)
  clear hoG hg0 hL hs0 hbM
  replace hv := hv.mono (Nat.zero_le _)
  replace hf := hf.mono (Nat.zero_le _)
  have cc0 := m0.1
  have cc1 := m1.1
  have hlt6 := cell_lt cc0
  simp only at hlt6
  go_wp2_with fail
  obtain ⟨W, hW⟩ : ∃ W, W = w6.alloc (.cells #[.int .i64 tx, .int .i64 ty, .int .i64 tz] 49) := ⟨_, rfl⟩
  have hg7 : w6.grownBy W none := by rw [hW]; exact gr_alloc (World.grownBy.refl _ _) _
  have t0 := (Cell.new w6 [.int .i64 tx, .int .i64 ty, .int .i64 tz] 49 0 _ rfl _ rfl).1
  have t1 := (Cell.new w6 [.int .i64 tx, .int .i64 ty, .int .i64 tz] 49 1 _ rfl _ rfl).1
  have t2 := (Cell.new w6 [.int .i64 tx, .int .i64 ty, .int .i64 tz] 49 2 _ rfl _ rfl).1
  simp only [List.toArray] at t0 t1 t2
  rw [← hW] at t0 t1 t2 ⊢
  clear hW
  replace hv := hv.pure hg7
  replace hf := hf.pure hg7
  have b0 := hg7.k m0.1
  have b1 := hg7.k m1.1
  have hgT : Hid (w.grownBy W none) := gr_trans hgT.out hg7
  have hMS : w3.heap.size < W.heap.size := cell_lt b0
  have hBS : w6.heap.size < W.heap.size := cell_lt t0
  clear hg7 m0 m1 cc0 cc1
  obtain ⟨tv, htv⟩ : ∃ tv : V3, tv = ⟨tx, ty, tz⟩ := ⟨_, rfl⟩
  -- the three answers of the code
  have hT := fun wx (hx : W.grownBy wx none) => turned_any A1 c1 vs B1 d1 fs axis q wx (hv.pure hx) (hf.pure hx)
  have hMo := fun wx (hx : W.grownBy wx none) => moved_any A1 c1 vs B1 d1 fs tv wx (hv.pure hx) (hf.pure hx)
  have hMi := fun wx (hx : W.grownBy wx none) => mirrored_any A1 c1 vs B1 d1 fs axis wx (hv.pure hx) (hf.pure hx)
  have hRT := fun wx (hx : W.grownBy wx none) n hM hn => turnedRef_any A1 c1 vs B1 d1 fs axis n wx (hv.pure hx) (hf.pure hx) hM hn
  have hRM := fun wx (hx : W.grownBy wx none) hM => movedRef_any A1 c1 vs B1 d1 fs tv wx (hv.pure hx) (hf.pure hx) hM
  have hRI := fun wx (hx : W.grownBy wx none) hM => mirroredRef_any A1 c1 vs B1 d1 fs axis wx (hv.pure hx) (hf.pure hx) hM
  have k1 := @turn_ok ⟨vs, fs⟩ axis q
  have k2 := @turn_bad ⟨vs, fs⟩ axis q
  have k3 := @mir_ok ⟨vs, fs⟩ axis
  have k4 := @mir_bad ⟨vs, fs⟩ axis
  have k5 : meshF ⟨vs, fs⟩ = 0 → moveR ⟨vs, fs⟩ tv = movR ⟨vs, fs⟩ tv := fun h => move_eq h
  have k6 : meshF ⟨vs, fs⟩ ≠ 0 → moveR ⟨vs, fs⟩ tv = (⟨[], []⟩, meshF ⟨vs, fs⟩) := fun h => by unfold moveR; rw [if_neg h]
  rw [htv] at hMo hRM
  simp only at hMo hRM
  rw [← htv] at hMo hRM
  obtain ⟨R1, hR1⟩ : ∃ R1, R1 = turnR ⟨vs, fs⟩ axis q := ⟨_, rfl⟩
  obtain ⟨R2, hR2⟩ : ∃ R2, R2 = moveR ⟨vs, fs⟩ tv := ⟨_, rfl⟩
  obtain ⟨R3, hR3⟩ : ∃ R3, R3 = mirR ⟨vs, fs⟩ axis := ⟨_, rfl⟩
  simp only [← hR1] at hT k1 k2
  simp only [← hR2] at hMo k5 k6
  simp only [← hR3] at hMi k3 k4
  have hFa := hide (meshFault_any A1 c1 vs B1 d1 fs W hv hf)
  obtain ⟨F, hF⟩ : ∃ F, F = meshF ⟨vs, fs⟩ := ⟨_, rfl⟩
  simp only [← hF] at k1 k2 k3 k4 k5 k6 hRT hRM hRI
  simp only [Hid, ← hF] at hFa
  replace hFa := hide hFa
  replace hT := hide hT
  replace hMo := hide hMo
  replace hMi := hide hMi
  replace hRT := hide hRT
  replace hRM := hide hRM
  replace hRI := hide hRI
  replace k1 := hide k1
  replace k2 := hide k2
  replace k3 := hide k3
  replace k4 := hide k4
  replace k5 := hide k5
  replace k6 := hide k6
  replace hF := hide hF
  replace hR1 := hide hR1
  replace hR2 := hide hR2
  replace hR3 := hide hR3
  replace htv := hide htv
  obtain ⟨M1, E1⟩ := R1
  obtain ⟨M2, E2⟩ := R2
  obtain ⟨M3, E3⟩ := R3
  refine hFa.out.mono ?_
  rintro e w7 ⟨rfl, g7⟩
  clear hFa
  have dd0 := (g7).k b0
  have dd1 := (g7).k b1
  have e0 := (g7).k t0
  have e1 := (g7).k t1
  have e2 := (g7).k t2
  go_wp2_with fail
  refine (hT.out _ g7).mono ?_
  rintro e w8 ⟨Ta, ta, Tb, tb, rfl, sT1, sT2, g8⟩
  replace g8 := gr_trans g7 g8
  have VT : VMs 0 w8.heap.size M1 (w8.alloc (.cells #[.slice Ta M1.vs.length ta, .slice Tb M1.fs.length tb] 29)) := ⟨Ta, ta, Tb, tb, Cell.new w8 [.slice Ta M1.vs.length ta, .slice Tb M1.fs.length tb] 29 0 _ rfl _ rfl, Cell.new w8 [.slice Ta M1.vs.length ta, .slice Tb M1.fs.length tb] 29 1 _ rfl _ rfl, (sT1.mono (Nat.zero_le _)).pure (gr_alloc (World.grownBy.refl _ _) _), (sT2.mono (Nat.zero_le _)).pure (gr_alloc (World.grownBy.refl _ _) _)⟩
  have g8' := gr_alloc g8 (.cells #[.slice Ta M1.vs.length ta, .slice Tb M1.fs.length tb] 29)
  have hz8 := g8.size
  have hl8 : w3.heap.size < w8.heap.size := by omega
  have hl8' : w6.heap.size < w8.heap.size := by omega
  have dd0 := (g8).k b0
  have dd1 := (g8).k b1
  have e0 := (g8).k t0
  have e1 := (g8).k t1
  have e2 := (g8).k t2
  clear sT1 sT2 g7 hT
  go_wp2_with fail
  refine (hMo.out _ g8').mono ?_
  rintro e w9 ⟨Ma, ma, Mb, mb, rfl, sM1, sM2, g9⟩
  replace VT := VT.pure g9
  replace g9 := gr_trans g8' g9
  have VM : VMs 0 w9.heap.size M2 (w9.alloc (.cells #[.slice Ma M2.vs.length ma, .slice Mb M2.fs.length mb] 29)) := ⟨Ma, ma, Mb, mb, Cell.new w9 [.slice Ma M2.vs.length ma, .slice Mb M2.fs.length mb] 29 0 _ rfl _ rfl, Cell.new w9 [.slice Ma M2.vs.length ma, .slice Mb M2.fs.length mb] 29 1 _ rfl _ rfl, (sM1.mono (Nat.zero_le _)).pure (gr_alloc (World.grownBy.refl _ _) _), (sM2.mono (Nat.zero_le _)).pure (gr_alloc (World.grownBy.refl _ _) _)⟩
  replace VT := VT.pure (gr_alloc (World.grownBy.refl _ none) (.cells #[.slice Ma M2.vs.length ma, .slice Mb M2.fs.length mb] 29))
  have g9' := gr_alloc g9 (.cells #[.slice Ma M2.vs.length ma, .slice Mb M2.fs.length mb] 29)
  have hz9 := g9.size
  have hl9 : w3.heap.size < w9.heap.size := by omega
  have hl9' : w6.heap.size < w9.heap.size := by omega
  have dd0 := (g9).k b0
  have dd1 := (g9).k b1
  have e0 := (g9).k t0
  have e1 := (g9).k t1
  have e2 := (g9).k t2
  clear sM1 sM2 g8 g8' hMo
  go_wp2_with fail
  refine (hMi.out _ g9').mono ?_
  rintro e w10 ⟨Ia, ia, Ib, ib, rfl, sI1, sI2, g10⟩
  replace VT := VT.pure g10
  replace VM := VM.pure g10
  replace g10 := gr_trans g9' g10
  have VI : VMs 0 w10.heap.size M3 (w10.alloc (.cells #[.slice Ia M3.vs.length ia, .slice Ib M3.fs.length ib] 29)) := ⟨Ia, ia, Ib, ib, Cell.new w10 [.slice Ia M3.vs.length ia, .slice Ib M3.fs.length ib] 29 0 _ rfl _ rfl, Cell.new w10 [.slice Ia M3.vs.length ia, .slice Ib M3.fs.length ib] 29 1 _ rfl _ rfl, (sI1.mono (Nat.zero_le _)).pure (gr_alloc (World.grownBy.refl _ _) _), (sI2.mono (Nat.zero_le _)).pure (gr_alloc (World.grownBy.refl _ _) _)⟩
  have g10' := gr_alloc g10 (.cells #[.slice Ia M3.vs.length ia, .slice Ib M3.fs.length ib] 29)
  replace VT := VT.pure (gr_alloc (World.grownBy.refl _ none) (.cells #[.slice Ia M3.vs.length ia, .slice Ib M3.fs.length ib] 29))
  replace VM := VM.pure (gr_alloc (World.grownBy.refl _ none) (.cells #[.slice Ia M3.vs.length ia, .slice Ib M3.fs.length ib] 29))
  clear sI1 sI2 g9 g9' hMi dd0 dd1 e0 e1 e2
  go_wp2_with fail
  refine (axisFault_any _ _).mono ?_
  rintro e wx ⟨rfl, rfl⟩
  go_wp2_with fail
  refine (spanFault_any _ _ _ _).mono ?_
  rintro e wx ⟨rfl, rfl⟩
  go_wp2_with fail
  refine (or_any _ _ _ [F, axisF axis, spanF q 0 3] _ (sl_intsAt _ 0 _ [F, axisF axis, spanF q 0 3] _ (by first | rfl | simp) (Nat.zero_le _) (by simp [maxLen])) rfl).mono ?_
  rintro e wx ⟨rfl, rfl⟩
  obtain ⟨O1, hO1⟩ : ∃ O1, O1 = orL [F, axisF axis, spanF q 0 3] := ⟨_, rfl⟩
  rw [← hO1]
  simp only [Hid, ← hO1] at k1 k2
  clear hO1
  replace k1 := hide k1
  replace k2 := hide k2
  go_wp2_with fail
  refine (axisFault_any _ _).mono ?_
  rintro e wx ⟨rfl, rfl⟩
  go_wp2_with fail
  refine (or_any _ _ _ [F, axisF axis] _ (sl_intsAt _ 0 _ [F, axisF axis] _ (by first | rfl | simp) (Nat.zero_le _) (by simp [maxLen])) rfl).mono ?_
  rintro e wx ⟨rfl, rfl⟩
  obtain ⟨O3, hO3⟩ : ∃ O3, O3 = orL [F, axisF axis] := ⟨_, rfl⟩
  rw [← hO3]
  simp only [Hid, ← hO3] at k3 k4
  clear hO3
  replace k3 := hide k3
  replace k4 := hide k4
  go_upto_if 77 with fail
  obtain ⟨B0, hB0⟩ : ∃ B0, B0 = ((w10.alloc (.cells #[.slice Ia M3.vs.length ia, .slice Ib M3.fs.length ib] 29)).alloc (.cells #[.int .i64 F, .int .i64 (axisF axis), .int .i64 (spanF q 0 3)] 35)).alloc (.cells #[.int .i64 F, .int .i64 (axisF axis)] 35) := ⟨_, rfl⟩
  have hBg := gr_alloc (gr_alloc (World.grownBy.refl (w10.alloc (.cells #[.slice Ia M3.vs.length ia, .slice Ib M3.fs.length ib] 29)) none) (.cells #[.int .i64 F, .int .i64 (axisF axis), .int .i64 (spanF q 0 3)] 35)) (.cells #[.int .i64 F, .int .i64 (axisF axis)] 35)
  rw [← hB0] at hBg
  have hBs : B0.heap.size = w10.heap.size + 1 + 1 + 1 := by rw [hB0]; simp
  obtain ⟨X0, hX0⟩ : ∃ X0, X0 = ((B0.alloc (.cells #[.slice none 0 0, .slice none 0 0] 29)).alloc (.cells #[.slice none 0 0, .slice none 0 0] 29)).alloc (.cells #[.slice none 0 0, .slice none 0 0] 29) := ⟨_, rfl⟩
  have hXg : B0.grownBy X0 none := by rw [hX0]; exact (by repeat (first | exact World.grownBy.refl _ _ | assumption | refine gr_alloc ?_ _ | (apply gr_tail; assumption) | refine gr_drewN ?_ _ | refine gr_drew ?_))
  have hXs : X0.heap.size = w10.heap.size + 1 + 1 + 1 + 1 + 1 + 1 := by rw [hX0]; simp [hBs]
  have x0 : Cell X0 (w10.heap.size + 1 + 1 + 1) 0 (.slice none 0 0) := by rw [hX0, ← hBs]; exact ⟨by go_simp, by go_simp⟩
  have x1 : Cell X0 (w10.heap.size + 1 + 1 + 1) 1 (.slice none 0 0) := by rw [hX0, ← hBs]; exact ⟨by go_simp, by go_simp⟩
  have y0 : Cell X0 (w10.heap.size + 1 + 1 + 1 + 1) 0 (.slice none 0 0) := by rw [hX0, ← hBs]; exact ⟨by go_simp, by go_simp⟩
  have y1 : Cell X0 (w10.heap.size + 1 + 1 + 1 + 1) 1 (.slice none 0 0) := by rw [hX0, ← hBs]; exact ⟨by go_simp, by go_simp⟩
  have z0 : Cell X0 (w10.heap.size + 1 + 1 + 1 + 1 + 1) 0 (.slice none 0 0) := by rw [hX0, ← hBs]; exact ⟨by go_simp, by go_simp⟩
  have z1 : Cell X0 (w10.heap.size + 1 + 1 + 1 + 1 + 1) 1 (.slice none 0 0) := by rw [hX0, ← hBs]; exact ⟨by go_simp, by go_simp⟩
  rw [← hB0, ← hX0]
  clear hX0 hB0
  replace VT := VT.pure hBg
  replace VM := VM.pure hBg
  replace VI := VI.pure hBg
  have gB := gr_trans g10' hBg
  clear hBg g10 g10'
  obtain ⟨gx, hgx⟩ : ∃ gx, gx = w10.heap.size + 1 + 1 + 1 := ⟨_, rfl⟩
  rw [← hgx] at x0 x1 y0 y1 z0 z1 hXs hBs ⊢
  obtain ⟨gt, hgt⟩ : ∃ gt, gt = w8.heap.size := ⟨_, rfl⟩
  obtain ⟨gm, hgm⟩ : ∃ gm, gm = w9.heap.size := ⟨_, rfl⟩
  obtain ⟨gi, hgi⟩ : ∃ gi, gi = w10.heap.size := ⟨_, rfl⟩
  rw [← hgt] at VT
  rw [← hgm] at VM
  rw [← hgi] at VI
  rw [← hgt, ← hgm, ← hgi]
  clear hz8 hl8 hl8' hz9 hl9 hl9' hgx
  replace hgt := hide hgt
  replace hgm := hide hgm
  replace hgi := hide hgi
  go_cut [15] (fun s15 wx => s15 = .int .i64 E1 ∧ VMs X0.heap.size gx M1 wx ∧ (Cell wx (gx + 1) 0 (.slice none 0 0) ∧ Cell wx (gx + 1) 1 (.slice none 0 0)) ∧ (Cell wx (gx + 1 + 1) 0 (.slice none 0 0) ∧ Cell wx (gx + 1 + 1) 1 (.slice none 0 0)) ∧ B0.grownBy wx none ∧ X0.heap.size ≤ wx.heap.size)
  case first =>
    have gX := gr_trans gB hXg
    have dd0 := gX.k b0
    have dd1 := gX.k b1
    by_cases hz : O1 = 0
    · have hb : (O1 == 0) = true := by simp [hz]
      obtain ⟨hF0, n', hqn, hn3, hME⟩ := k1.out hz
      have hR := hRT.out X0 gX n' hF0 hn3
      injection hME with hM hE
      rw [← hM, ← hE] at hR
      subst hqn
      replace hR := hide hR
      clear k1 k2 k3 k4 k5 k6 hRT hRM hRI hM hE hz hF0
      have X1 := hide x0
      have X2 := hide x1
      clear x0 x1
      go_wp2_with fail
      refine hR.out.mono ?_
      rintro e wy ⟨Xa, xa, Xb, xb, rfl, s1, s2, hgy⟩
      have x0 := hide (X1.out.gr hgy (by simp))
      have x1 := hide (X2.out.gr hgy (by simp))
      obtain ⟨u0, v0⟩ := x0.out
      obtain ⟨u1, v1⟩ := x1.out
      go_wp2_with fail
      go_meet
      have hgs := fun (a1 a2 : Value) => gr_set (gr_set (World.grownBy.refl wy (some gx)) (p := ⟨gx, 0, none⟩) (.inl rfl) a1) (p := ⟨gx, 1, none⟩) (.inl rfl) a2
      exact ⟨rfl, ⟨Xa, xa, Xb, xb, (x0.out.set_ _).set_ne _ (by decide), (x1.out.set_ne _ (by decide)).set_ _, s1.gr (hgs _ _) (fun g e => by injection e; omega), s2.gr (hgs _ _) (fun g e => by injection e; omega)⟩,
        ⟨(y0.gr hgy (by simp)).gr (hgs _ _) (by simp), (y1.gr hgy (by simp)).gr (hgs _ _) (by simp)⟩, ⟨(z0.gr hgy (by simp)).gr (hgs _ _) (by simp; omega), (z1.gr hgy (by simp)).gr (hgs _ _) (by simp; omega)⟩, gr_row (gr_trans hXg hgy) (hgs _ _) (fun g e => by injection e; omega), Nat.le_trans hgy.size (hgs _ _).size⟩
    · have hb : (O1 == 0) = false := by simp [hz]
      have hME := k2.out hz
      injection hME with hM hE
      clear k1 k2 k3 k4 k5 k6 hRT hRM hRI hz
      subst hM
      subst hE
      go_wp2_with fail
      go_meet
      exact ⟨rfl, VMs.nil x0 x1, ⟨y0, y1⟩, ⟨z0, z1⟩, hXg, Nat.le_refl _⟩
  case rest =>
  obtain ⟨rfl, Vx, ⟨y0, y1⟩, ⟨z0, z1⟩, gc, hle⟩ := hcut
  rename World => wA
  clear k1 k2 hRT x0 x1 hXg
  go_upto_if 86 with fail
  go_cut [16] (fun s16 wx => s16 = .int .i64 E2 ∧ VMs X0.heap.size gx M1 wx ∧ VMs X0.heap.size (gx + 1) M2 wx ∧ (Cell wx (gx + 1 + 1) 0 (.slice none 0 0) ∧ Cell wx (gx + 1 + 1) 1 (.slice none 0 0)) ∧ B0.grownBy wx none ∧ X0.heap.size ≤ wx.heap.size)
  case first =>
    have gX := gr_trans gB gc
    have dd0 := gX.k b0
    have dd1 := gX.k b1
    have e0 := gX.k t0
    have e1 := gX.k t1
    have e2 := gX.k t2
    by_cases hz : F = 0
    · have hb : (F == 0) = true := by simp [hz]
      have hR := hRM.out wA gX hz
      have h5 := k5.out hz
      rw [← h5] at hR
      simp only at hR
      replace hR := hide hR
      clear k3 k4 k5 k6 hRM hRI h5 hz
      have X1 := hide y0
      have X2 := hide y1
      clear y0 y1
      go_wp2_with fail
      refine hR.out.mono ?_
      rintro e wy ⟨Xa, xa, Xb, xb, rfl, s1, s2, hgy⟩
      have y0 := hide (X1.out.gr hgy (by simp))
      have y1 := hide (X2.out.gr hgy (by simp))
      obtain ⟨u0, v0⟩ := y0.out
      obtain ⟨u1, v1⟩ := y1.out
      go_wp2_with fail
      go_meet
      have hgs := fun (a1 a2 : Value) => gr_set (gr_set (World.grownBy.refl wy (some (gx + 1))) (p := ⟨gx + 1, 0, none⟩) (.inl rfl) a1) (p := ⟨gx + 1, 1, none⟩) (.inl rfl) a2
      exact ⟨rfl, (Vx.pure hgy).oth (hgs _ _) (by omega) (by omega), ⟨Xa, xa, Xb, xb, (y0.out.set_ _).set_ne _ (by decide), (y1.out.set_ne _ (by decide)).set_ _, (s1.gr (hgs _ _) (fun g e => by injection e; omega)).mono hle, (s2.gr (hgs _ _) (fun g e => by injection e; omega)).mono hle⟩,
        ⟨(z0.gr hgy (by simp)).gr (hgs _ _) (by simp), (z1.gr hgy (by simp)).gr (hgs _ _) (by simp)⟩, gr_row (gr_trans gc hgy) (hgs _ _) (fun g e => by injection e; omega), Nat.le_trans hle (Nat.le_trans hgy.size (hgs _ _).size)⟩
    · have hb : (F == 0) = false := by simp [hz]
      have hME := k6.out hz
      injection hME with hM hE
      clear k3 k4 k5 k6 hRM hRI hz
      subst hM
      subst hE
      go_wp2_with fail
      go_meet
      exact ⟨rfl, Vx, VMs.nil y0 y1, ⟨z0, z1⟩, gc, hle⟩
  case rest =>
  obtain ⟨rfl, Vx, Vy, ⟨z0, z1⟩, gc, hle⟩ := hcut
  rename World => wB
  clear k5 k6 hRM y0 y1
  go_upto_if 94 with fail
  go_cut [17] (fun s17 wx => s17 = .int .i64 E3 ∧ VMs X0.heap.size gx M1 wx ∧ VMs X0.heap.size (gx + 1) M2 wx ∧ VMs X0.heap.size (gx + 1 + 1) M3 wx ∧ B0.grownBy wx none)
  case first =>
    have gX := gr_trans gB gc
    have dd0 := gX.k b0
    have dd1 := gX.k b1
    by_cases hz : O3 = 0
    · have hb : (O3 == 0) = true := by simp [hz]
      obtain ⟨hF0, hME⟩ := k3.out hz
      have hR := hRI.out wB gX hF0
      injection hME with hM hE
      rw [← hM, ← hE] at hR
      replace hR := hide hR
      clear k3 k4 hRI hM hE hz hF0
      have X1 := hide z0
      have X2 := hide z1
      clear z0 z1
      go_wp2_with fail
      refine hR.out.mono ?_
      rintro e wy ⟨Xa, xa, Xb, xb, rfl, s1, s2, hgy⟩
      have z0 := hide (X1.out.gr hgy (by simp))
      have z1 := hide (X2.out.gr hgy (by simp))
      obtain ⟨u0, v0⟩ := z0.out
      obtain ⟨u1, v1⟩ := z1.out
      go_wp2_with fail
      go_meet
      have hgs := fun (a1 a2 : Value) => gr_set (gr_set (World.grownBy.refl wy (some (gx + 1 + 1))) (p := ⟨gx + 1 + 1, 0, none⟩) (.inl rfl) a1) (p := ⟨gx + 1 + 1, 1, none⟩) (.inl rfl) a2
      exact ⟨rfl, (Vx.pure hgy).oth (hgs _ _) (by omega) (by omega), (Vy.pure hgy).oth (hgs _ _) (by omega) (by omega), ⟨Xa, xa, Xb, xb, (z0.out.set_ _).set_ne _ (by decide), (z1.out.set_ne _ (by decide)).set_ _, (s1.gr (hgs _ _) (fun g e => by injection e; omega)).mono hle, (s2.gr (hgs _ _) (fun g e => by injection e; omega)).mono hle⟩,
        gr_row (gr_trans gc hgy) (hgs _ _) (fun g e => by injection e; omega)⟩
    · have hb : (O3 == 0) = false := by simp [hz]
      have hME := k4.out hz
      injection hME with hM hE
      clear k3 k4 hRI hz
      subst hM
      subst hE
      go_wp2_with fail
      go_meet
      exact ⟨rfl, Vx, Vy, VMs.nil z0 z1, gc⟩
  case rest =>
  obtain ⟨rfl, Vx, Vy, Vz, gc⟩ := hcut
  rename World => wC
  clear k3 k4 hRI z0 z1 hle
  replace VT := VT.pure gc
  replace VM := VM.pure gc
  replace VI := VI.pure gc
  have gX := hide (gr_trans gB gc)
  obtain ⟨tA, tc, tB, td, ⟨cA, -⟩, ⟨cB, -⟩, pA, pB⟩ := VT
  obtain ⟨xA, xc, xB, xd, ⟨cC, -⟩, ⟨cD, -⟩, pC', pD'⟩ := Vx
  have pC := pC'.mono (Nat.zero_le _)
  have pD := pD'.mono (Nat.zero_le _)
  clear pC' pD'
  go_wp2_with fail
  refine (sameMesh_any _ _ _ _ _ _ _ _ _ _ _ pA pB pC pD).mono ?_
  rintro e v1 ⟨rfl, h1⟩
  replace VM := VM.pure h1
  replace Vy := Vy.pure h1
  replace VI := VI.pure h1
  replace Vz := Vz.pure h1
  clear cA cB cC cD pA pB pC pD
  obtain ⟨tA, tc, tB, td, ⟨cA, -⟩, ⟨cB, -⟩, pA, pB⟩ := VM
  obtain ⟨xA, xc, xB, xd, ⟨cC, -⟩, ⟨cD, -⟩, pC', pD'⟩ := Vy
  have pC := pC'.mono (Nat.zero_le _)
  have pD := pD'.mono (Nat.zero_le _)
  clear pC' pD'
  go_wp2_with fail
  refine (sameMesh_any _ _ _ _ _ _ _ _ _ _ _ pA pB pC pD).mono ?_
  rintro e v2 ⟨rfl, h2⟩
  replace VI := VI.pure h2
  replace Vz := Vz.pure h2
  clear cA cB cC cD pA pB pC pD
  obtain ⟨tA, tc, tB, td, ⟨cA, -⟩, ⟨cB, -⟩, pA, pB⟩ := VI
  obtain ⟨xA, xc, xB, xd, ⟨cC, -⟩, ⟨cD, -⟩, pC', pD'⟩ := Vz
  have pC := pC'.mono (Nat.zero_le _)
  have pD := pD'.mono (Nat.zero_le _)
  clear pC' pD'
  go_wp2_with fail
  refine (sameMesh_any _ _ _ _ _ _ _ _ _ _ _ pA pB pC pD).mono ?_
  rintro e v3 ⟨rfl, h3⟩
  go_wp2_with fail
  refine (meshed_any _).mono ?_
  rintro e v4 ⟨rfl, h4⟩
  go_wp2_with fail
  go_ret
  exact ⟨rfl, gr_trans hgT.out (gr_trans (gr_trans (gr_trans (gr_trans gX.out h1) h2) h3) h4)⟩

end Go.Proofs.Ytjodjdjfagjiaaa
