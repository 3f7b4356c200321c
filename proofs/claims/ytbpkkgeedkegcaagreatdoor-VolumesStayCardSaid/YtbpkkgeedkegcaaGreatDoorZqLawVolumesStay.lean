/- Contracts of functions that this seat's laws reach, each: what one call returns and what it leaves in memory; no condition beyond each theorem's own hypotheses. -/
import Derived.Test.YtbpkkgeedkegcaaGreatDoorZqReady
import Derived.Test.YtbpkkgeedkegcaaGreatDoorZqClosM
import Derived.Test.YtbpkkgeedkegcaaGreatDoorZqVolA
import Derived.Test.YtbpkkgeedkegcaaGreatDoorZqMeshBH
import Derived.Test.YtbpkkgeedkegcaaGreatDoorZqTree
import Derived.Deep.DeepCutAuto
set_option linter.unusedVariables false
set_option linter.unusedSimpArgs false
namespace Go.Proofs.YtbpkkgeedkegcaaGreatDoor
open Go Go.RowKit Go.Bl

/-- a box that holds a mesh, its rows from lo on -/
def MBo (lo g : Nat) (m : MeshV) (w : World) : Prop := lo ≤ g ∧ ∃ (A : Option Addr) (c : Nat) (B : Option Addr) (d : Nat), w.cell? ⟨g, 0, none⟩ = some (.slice A m.vs.length c) ∧ w.cell? ⟨g, 1, none⟩ = some (.slice B m.fs.length d) ∧ Sl w lo A m.vs ∧ Sl w lo B m.fs

theorem MBo.new {lo : Nat} {m : MeshV} {A : Option Addr} {c : Nat} {B : Option Addr} {d : Nat} {w : World} (hl : lo ≤ w.heap.size) (h1 : Sl w lo A m.vs) (h2 : Sl w lo B m.fs) : MBo lo w.heap.size m (w.alloc (.cells #[.slice A m.vs.length c, .slice B m.fs.length d] 29)) :=
  ⟨hl, A, c, B, d, by go_simp, by go_simp, h1.pure (gr_alloc (World.grownBy.refl _ _) _), h2.pure (gr_alloc (World.grownBy.refl _ _) _)⟩

theorem MBo.gr {lo g : Nat} {m : MeshV} {w w' : World} {r : Option Nat} (h : MBo lo g m w) (hg : w.grownBy w' r) (hr : ∀ b, r = some b → b < lo) : MBo lo g m w' :=
  let ⟨hl, A, c, B, d, h1, h2, h3, h4⟩ := h
  ⟨hl, A, c, B, d, gr_cell hg h1 (fun e => by have := hr _ e; simp only at this; omega), gr_cell hg h2 (fun e => by have := hr _ e; simp only at this; omega), h3.gr hg hr, h4.gr hg hr⟩

theorem MBo.pure {lo g : Nat} {m : MeshV} {w w' : World} (h : MBo lo g m w) (hg : w.grownBy w' none) : MBo lo g m w' := h.gr hg (fun b e => by cases e)

theorem one_sum : ∀ g : List Nat, (g.map fun _ => (1 : Int)).sum = g.length
  | [] => rfl
  | x :: g => by rw [List.map_cons, List.sum_cons, one_sum g, List.length_cons]; omega

theorem shells_lens (fs : List Fc) : ((shellsF fs).map fun g => (g.length : Int)).sum = fs.length := by
  have h := shells_sum fs fun _ => (1 : Int)
  have e : (fun g : List Nat => (g.map fun _ => (1 : Int)).sum) = fun g => (g.length : Int) := by funext g; exact one_sum g
  rw [e, one_sum, List.length_range] at h
  exact h

theorem grps_bd {vs : List V3} (h : vs.any farV = false) (fs : List Fc) : ∀ (G : List (List Nat)) (k : Nat), -(6000000000000000 * (G.map fun g => (g.length : Int)).sum) ≤ ((G.map (grpVol vs fs)).take k).sum ∧ ((G.map (grpVol vs fs)).take k).sum ≤ 6000000000000000 * (G.map fun g => (g.length : Int)).sum
  | [], k => by simp
  | g :: G, 0 => by
    have h1 := grps_bd h fs G 0
    simp only [List.take_zero, List.sum_nil, List.map_cons, List.sum_cons] at h1 ⊢
    omega
  | g :: G, k + 1 => by
    have h1 := grps_bd h fs G k
    have h2 := grpVol_bd h fs g
    simp only [List.map_cons, List.take_succ_cons, List.sum_cons]
    omega

theorem vols_bd {vs : List V3} (h : vs.any farV = false) (fs : List Fc) (k : Nat) : -(6000000000000000 * (fs.length : Int)) ≤ ((volsS vs fs).take k).sum ∧ ((volsS vs fs).take k).sum ≤ 6000000000000000 * (fs.length : Int) := by
  have h1 := grps_bd h fs (shellsF fs) k
  rw [shells_lens] at h1
  exact h1

theorem sum_take {l : List Int} {k : Nat} (h : k < l.length) : (l.take (k + 1)).sum = (l.take k).sum + l[k] := by
  rw [take_snoc h, List.sum_append]; simp

/-- what the region of the move leaves -/
def MVR (w10 : World) (b : Nat) (vs : List V3) (fs : List Fc) (s16 s17 : Value) (wx : World) : Prop :=
  ∃ (z : Int) (x16 : Nat), (-9 ≤ z ∧ z ≤ 9) ∧ s16 = .pointer (some ⟨x16, 0, none⟩) ∧ s17 = .int .i64 (moveR ⟨vs, fs⟩ ⟨5, -3, z⟩).2 ∧ MBo (b + 1) x16 (moveR ⟨vs, fs⟩ ⟨5, -3, z⟩).1 wx ∧ w10.grownBy wx (some b)

set_option maxHeartbeats 4000000 in
set_option maxRecDepth 100000 in
theorem volumesStay_law (A : Option Addr) (n c : Nat) (L : List Int) (w : World) (hL : Sl w 0 A L) (hn : L.length = n) :
    Calls Tryz.prog 4 #[.slice A n c] w fun e w' => e = .returned (.bool true) ∧ w.grownBy w' none := by
  have hs0 := strm_new (c := c) 25 hL hn
  have hg0 := gr_alloc (World.grownBy.refl w none) (.cells #[.slice A n c, .int .i64 0] 25)
  go_enter Tryz.func4, Tryz.ntmps4
  go_wp2_with fail
  refine (closedMesh_any _ 0 _ hs0 (by omega)).mono ?_
  rintro e w1 ⟨A1, c1, vs, B1, d1, fs, rfl, hl, hf, ho1, hM, hvl, hfl, hcl⟩
  replace hg0 := gr_new hg0 ho1.1 (Nat.le_refl _)
  have hw0 : (w.alloc (.cells #[.slice A n c, .int .i64 0] 25)).heap.size = w.heap.size + 1 := by simp
  have hs1 := ho1.2
  have hsz := ho1.1.size
  rw [hw0] at hl hf hsz
  obtain ⟨b, hb⟩ : ∃ b, b = w.heap.size := ⟨_, rfl⟩
  rw [← hb] at hs1 hl hf hsz
  have hbw : w.heap.size ≤ b := by omega
  have hop := closed_open.1 hcl
  have hve : volR vs fs = volS vs fs := by unfold volR; rw [if_pos hop]
  have hce : closE fs = 0 := by unfold closE; rw [if_pos hop]
  have hvF : volsF vs fs = volsS vs fs := by unfold volsF; rw [if_pos hop]
  have hVol := fun A c B d W h1 h2 => meshVolume_any A c vs B d fs W h1 h2 hM
  have hVols := fun A c B d W h1 h2 => volumes_any A c vs B d fs W h1 h2 hM
  have hsum := volsS_sum vs fs
  rw [hve, hce] at hVol
  rw [hce, hvF] at hVols
  have hm0 := MBo.new (c := c1) (d := d1) (m := ⟨vs, fs⟩) hsz hl hf
  have hgm := gr_alloc (World.grownBy.refl w1 none) (.cells #[.slice A1 vs.length c1, .slice B1 fs.length d1] 29)
  have hs2 := hs1.pure hgm
  have hg2 := gr_trans hg0 hgm
  replace hVol := hide hVol
  replace hVols := hide hVols
  replace hsum := hide hsum
  replace hM := hide hM
  replace hcl := hide hcl
  clear hop hve hce hvF hs0 hg0 ho1 hw0 hl hf hs1
  go_upto_region 3 with fail
  rw [← hb]
  clear hb
  generalize w1.heap.size = x4 at *
  generalize w1.alloc (.cells #[.slice A1 vs.length c1, .slice B1 fs.length d1] 29) = w2 at *
  clear hgm
  go_wp2_with fail
  refine (range_any _ 4480 0 2 _ (by exact hs2) (by omega) (by omega) (by omega) (by omega)).mono ?_
  rintro e w3 ⟨axis, rfl, hax, ho3⟩
  go_wp2_with fail
  refine (range_any _ 4481 0 3 _ (by exact ho3.2) (by omega) (by omega) (by omega) (by omega)).mono ?_
  rintro e w4 ⟨qz, rfl, hqz, ho4⟩
  have hm1 := hm0.gr (gr_trans ho3.1 ho4.1) (fun g e => by injection e; omega)
  have hg4 := gr_new hg2 (gr_trans ho3.1 ho4.1) hbw
  have hs4 := ho4.2
  clear hs2 ho3 ho4 hm0 hg2
  obtain ⟨q, rfl⟩ : ∃ q : Nat, qz = q := ⟨qz.toNat, by omega⟩
  have hq3 : q ≤ 3 := by omega
  -- what is called
  have hTu := fun A c B d W h1 h2 => turned_any A c vs B d fs axis q W h1 h2
  rw [turnR_ok hM.out hax hq3] at hTu
  have hMt := (turnV_lin axis q).mesh hM.out
  have hVt := (turnV_lin axis q).vol vs fs
  rw [fcS_false] at hMt hVt
  have hTb : (vs.map (turnV axis q)).map (turnV axis ((4 - q) % 4)) = vs := by
    rw [List.map_map]
    conv => rhs; rw [← List.map_id vs]
    exact List.map_congr_left fun v _ => turn_back axis hq3 v
  have hTk := fun A c B d W h1 h2 => turned_any A c (vs.map (turnV axis q)) B d fs axis (((4 - q) % 4 : Nat) : Int) W h1 h2
  rw [turnR_ok hMt hax (show (4 - q) % 4 ≤ 3 by omega), hTb] at hTk
  have hMi := fun A c B d W h1 h2 => mirrored_any A c vs B d fs axis W h1 h2
  rw [mirR_ok hM.out hax] at hMi
  have hMm : meshF ⟨vs.map (mirV axis), fs.map swp⟩ = 0 := (mirV_lin axis).mesh hM.out
  have hVm : volS (vs.map (mirV axis)) (fs.map swp) = volS vs fs := (mirV_lin axis).vol vs fs
  have hCm : openS (fs.map swp) = [] := closed_open.1 (closed_fcS (s := true) hcl.out)
  have hMb : (vs.map (mirV axis)).map (mirV axis) = vs := by
    rw [List.map_map]
    conv => rhs; rw [← List.map_id vs]
    exact List.map_congr_left fun v _ => mirV_mirV axis v
  have hMk := fun A c B d W h1 h2 => mirrored_any A c (vs.map (mirV axis)) B d (fs.map swp) axis W h1 h2
  rw [mirR_ok hMm hax, hMb, swp_swp] at hMk
  have hVt2 := fun A c B d W h1 h2 => meshVolume_any A c (vs.map (turnV axis q)) B d fs W h1 h2 hMt
  have hVm2 := fun A c B d W h1 h2 => meshVolume_any A c (vs.map (mirV axis)) B d (fs.map swp) W h1 h2 hMm
  rw [show volR (vs.map (turnV axis q)) fs = volS vs fs by unfold volR; rw [if_pos (closed_open.1 hcl.out), hVt], show closE fs = 0 by unfold closE; rw [if_pos (closed_open.1 hcl.out)]] at hVt2
  rw [show volR (vs.map (mirV axis)) (fs.map swp) = volS vs fs by unfold volR; rw [if_pos hCm, hVm], show closE (fs.map swp) = 0 by unfold closE; rw [if_pos hCm]] at hVm2
  have hbd := vols_bd (meshOk.1 hM.out).near fs
  have hmvF := fun z (hz : -9 ≤ z ∧ z ≤ 9) => move_law (t := ⟨5, -3, z⟩) (by unfold allIn in3 inB; simp; omega) hM.out hcl.out
  simp only at hTu hTk hMi hMk
  unfold SMeshE at hTu hTk hMi hMk
  clear hMt hVt hTb hMm hVm hCm hMb
  have hgl : (fs.map swp).length ≤ 100 := by rw [List.length_map]; exact hfl
  have htl : (vs.map (turnV axis q)).length ≤ 100 := by rw [List.length_map]; exact hvl
  have hml : (vs.map (mirV axis)).length ≤ 100 := by rw [List.length_map]; exact hvl
  generalize vs.map (turnV axis q) = ts at *
  generalize vs.map (mirV axis) = ms at *
  generalize fs.map swp = gs at *
  generalize volS vs fs = N at *
  generalize volsS vs fs = VL at *
  have hqr : Hid ((((4 - q) % 4 : Nat) : Int) = (4 - (q : Int)).tmod 4) := by
    obtain rfl | rfl | rfl | rfl : q = 0 ∨ q = 1 ∨ q = 2 ∨ q = 3 := by omega
    all_goals rfl
  replace hTu := hide hTu
  replace hTk := hide hTk
  replace hMi := hide hMi
  replace hMk := hide hMk
  replace hVt2 := hide hVt2
  replace hVm2 := hide hVm2
  replace hbd := hide hbd
  replace hmvF := hide hmvF
  -- volume and volumes
  have hmm := hm1
  obtain ⟨-, A2, c2, B2, d2, p0, p1, r0, r1⟩ := hmm
  go_wp2_with fail
  refine (hVol.out _ _ _ _ _ (r0.mono (Nat.zero_le _)) (r1.mono (Nat.zero_le _))).mono ?_
  rintro e w5 ⟨rfl, g5⟩
  have hm5 := hm1.pure g5
  have hmm := hm5
  clear p0 p1 r0 r1
  obtain ⟨-, A2, c2, B2, d2, p0, p1, r0, r1⟩ := hmm
  go_wp2_with fail
  refine (hVols.out _ _ _ _ _ (r0.mono (Nat.zero_le _)) (r1.mono (Nat.zero_le _))).mono ?_
  rintro e w6 ⟨O, co, rfl, hO, g6⟩
  have hm6 := hm5.pure g6
  have hg6 := gr_trans hg4 (gr_trans g5 g6)
  have hs6 := (hs4.pure g5).pure g6
  clear p0 p1 r0 r1 hm1 hm5 g5 g6 hg4 hs4 hVols
  have hmV := hO.1
  unfold maxLen at hmV
  go_wp2_with fail
  go_loopw [11, 55] (fun o i wr => ∃ k : Nat, k ≤ VL.length ∧ i = .int .i64 k ∧ o = .int .i64 (VL.take k).sum ∧ wr = w6) (fun _ i _ => VL.length - (intOf i).toNat)
  case atStart => exact ⟨0, Nat.zero_le _, rfl, rfl, rfl⟩
  case round =>
    obtain ⟨k, hk, rfl, rfl, rfl⟩ := hrel
    by_cases hlt : k < VL.length
    · obtain ⟨g, o, c1, rfl, hb0, hb1, hcr, hc⟩ := hO.sl.at_ (by decide) hlt
      have hcr : c1 = [.int .i64 VL[k]] := hcr
      subst hcr
      have v0 := hc 0 _ rfl
      rw [show Enc.sz Int = 1 from rfl, Nat.mul_one, Nat.add_zero] at v0
      clear hc
      have hs := hide (sum_take hlt)
      have h1 := hbd.out k
      have h2 := hbd.out (k + 1)
      rw [hs.out] at h2
      generalize VL[k] = X at *
      generalize (VL.take k).sum = Y at *
      have hb : -9223372036854775808 ≤ Y + X ∧ Y + X ≤ 9223372036854775807 := by omega
      clear h1 h2
      go_wp2_with fail
      (go_roundw; (case rel => exact ⟨k + 1, by omega, by go_num, by rw [hs.out], by first | trivial | rfl⟩); (case measure => simp [intOf]; omega))
    · have hke : VL.take k = VL := List.take_of_length_le (by omega)
      rw [hke, hsum.out]
      clear hke hO hbd
      -- turned, and turned back
      have hmm := hm6
      obtain ⟨-, A2, c2, B2, d2, p0, p1, r0, r1⟩ := hmm
      go_wp2_with fail
      refine (hTu.out _ _ _ _ _ (r0.mono (Nat.zero_le _)) (r1.mono (Nat.zero_le _))).mono ?_
      rintro e w7 ⟨A3, c3, B3, d3, rfl, xa, xb, g7⟩
      have hlo7 : b + 1 ≤ w7.heap.size := by have := cell_lt p0; have := g7.size; simp only at *; omega
      have hlo6 : b + 1 ≤ wr.heap.size := by have := cell_lt p0; simp only at *; omega
      have hm7 := hm6.pure g7
      have hs7 := hs6.pure g7
      have hg7 := gr_trans hg6 g7
      have ht8 := MBo.new (c := c3) (d := d3) (m := ⟨ts, fs⟩) hlo7 (xa.mono hlo6) (xb.mono hlo6)
      have hal := gr_alloc (World.grownBy.refl w7 none) (.cells #[.slice A3 ts.length c3, .slice B3 fs.length d3] 29)
      have hm8 := hm7.pure hal
      have hs8 := hs7.pure hal
      have hg8 := gr_trans hg7 hal
      clear p0 p1 r0 r1 xa xb g7 hm7 hs7 hg7 hm6 hs6 hg6 hTu
      go_upto_region 15 with fail
      generalize w7.heap.size = x14 at *
      generalize w7.alloc (.cells #[.slice A3 ts.length c3, .slice B3 fs.length d3] 29) = w8 at *
      clear hal
      have hmm := ht8
      obtain ⟨-, A2, c2, B2, d2, p0, p1, r0, r1⟩ := hmm
      go_wp2_with fail
      rw [show (-(q : Int)) % 4 = (((4 - q) % 4 : Nat) : Int) by omega]
      refine (hTk.out _ _ _ _ _ (r0.mono (Nat.zero_le _)) (r1.mono (Nat.zero_le _))).mono ?_
      rintro e w9 ⟨A3, c3, B3, d3, rfl, xa, xb, g9⟩
      have hlo8 : b + 1 ≤ w8.heap.size := by have := cell_lt p0; simp only at *; omega
      have hlo9 : b + 1 ≤ w9.heap.size := by have := g9.size; omega
      have hk10 := MBo.new (c := c3) (d := d3) (m := ⟨vs, fs⟩) hlo9 (xa.mono hlo8) (xb.mono hlo8)
      have hal := gr_trans g9 (gr_alloc (World.grownBy.refl w9 none) (.cells #[.slice A3 vs.length c3, .slice B3 fs.length d3] 29))
      have hm10 := hm8.pure hal
      have ht10 := ht8.pure hal
      have hs10 := hs8.pure hal
      have hg10 := gr_trans hg8 hal
      clear p0 p1 r0 r1 xa xb g9 hm8 ht8 hs8 hg8 hTk
      go_upto_region 16 with fail
      generalize w9.heap.size = x15 at *
      generalize w9.alloc (.cells #[.slice A3 vs.length c3, .slice B3 fs.length d3] 29) = w10 at *
      clear hal
      have hmm := hm10
      obtain ⟨-, A2, c2, B2, d2, p0, p1, r0, r1⟩ := hmm
      have hl10 : b + 1 ≤ w10.heap.size := by have := cell_lt p0; simp only at *; omega
      have hb4 : b < x4 := by omega
      go_cut [16, 17] from 79 to 86 (fun s16 s17 wx => MVR w10 b vs fs s16 s17 wx)
      case first =>
        clear hm10 ht10 hk10 hg10 hVol hsum hMi hMk hVt2 hVm2 hmvF
        refine wp_region_tree (fun wx => w10.grownBy wx (some b)) [1, 2, 0, 2, 0, 2, 2, 2, 0, 0, 2] (.bl 0 (.bl 1 (.alt (.ef 2 (.bl 3 (.alt (.ef 4 (.bl 5 (.bl 6 (.bl 7 (.ef 8 (.ef 9 (.bl 10 .done))))))) (.ef 8 (.ef 4 (.bl 5 (.bl 6 (.bl 7 (.ef 9 (.bl 10 .done)))))))))) (.ef 8 (.ef 2 (.bl 3 (.ef 4 (.bl 5 (.bl 6 (.bl 7 (.ef 9 (.bl 10 .done)))))))))))) (by kernel_rfl) (by kernel_rfl) (gr_drew (World.grownBy.refl _ _)) ?_
        obtain ⟨W1, hW1⟩ : ∃ x, x = (w10).drew := ⟨_, rfl⟩
        rw [← hW1]
        have hgW1 : (w10).grownBy W1 none := by rw [hW1]; exact gr_drew (World.grownBy.refl _ _)
        clear hW1
        have hs11 := hs10.pure hgW1
        have hgW1b : w10.grownBy W1 (some b) := gr_any hgW1
        have hl11 : b + 1 ≤ W1.heap.size := Nat.le_trans hl10 hgW1.size
        refine tree_b rfl rfl rfl rfl _ rfl (by simp) (fun K hK => ?_)
        apply Exists.intro
        refine ⟨fun wq hq K' hK' => ?_, ?_⟩
        · have q0 := gr_cell hq p0 (by simp; omega)
          have q1 := gr_cell hq p1 (by simp; omega)
          go_wp2_with fail
          exact hK'
        go_simp
        refine hK _ ?_
        clear hK K
        refine tree_p rfl rfl rfl rfl _ rfl (by simp) (fun K hK => ?_)
        apply Exists.intro
        refine ⟨fun wq K' hK' => ?_, ?_⟩
        · go_wp2_with fail
          exact hK'
        go_simp
        refine hK _ ?_
        clear hK K
        refine tree_alt ?_ ?_
        · refine tree_e rfl rfl (fun K hK => ?_)
          have hsx := hs11
          go_wp2_with fail
          refine (range_any _ 4482 (-9) 9 _ (by exact hsx) (by omega) (by omega) (by omega) (by omega)).mono ?_
          rintro e w11 ⟨z, rfl, hz, ho11⟩
          have hg2 := ho11.1
          go_wp2_with fail
          try go_simp
          refine hK _ _ ((gr_trans hgW1b (gr_trans (World.grownBy.refl _ _) hg2))) ?_
          clear hK K
          refine tree_p rfl rfl rfl rfl _ rfl (by simp) (fun K hK => ?_)
          apply Exists.intro
          refine ⟨fun wq K' hK' => ?_, ?_⟩
          · go_wp2_with fail
            exact hK'
          go_simp
          refine hK _ ?_
          clear hK K
          refine tree_alt ?_ ?_
          · refine tree_e0 (by kernel_rfl) rfl rfl (fun K hK => ?_)
            have hGx := gr_trans hgW1b hg2
            obtain ⟨MV, hMV⟩ : ∃ MV, MV = moveR ⟨vs, fs⟩ ⟨5, -3, z⟩ := ⟨_, rfl⟩
            have hMo := moved_any A2 c2 vs B2 d2 fs ⟨5, -3, z⟩ w11 ((r0.gr hGx (fun g e => by injection e; omega)).mono (Nat.zero_le _)) ((r1.gr hGx (fun g e => by injection e; omega)).mono (Nat.zero_le _))
            rw [← hMV] at hMo
            replace hMV := hide hMV
            replace hMo := hide hMo
            have hls : b + 1 ≤ (w11).heap.size := Nat.le_trans hl11 (hg2).size
            go_wp2_with fail
            refine hMo.out.mono ?_
            rintro e w12 ⟨A5, c5, B5, d5, rfl, xa, xb, g12⟩
            have hg4 : (w11).grownBy w12 (some b) := gr_any g12
            clear hMo
            go_wp2_with fail
            try go_simp
            refine hK _ _ trivial ?_
            clear hK K
            refine tree_p rfl rfl rfl rfl _ rfl (by simp) (fun K hK => ?_)
            apply Exists.intro
            refine ⟨fun wq K' hK' => ?_, ?_⟩
            · go_wp2_with fail
              exact hK'
            go_simp
            refine hK _ ?_
            clear hK K
            refine tree_p rfl rfl rfl rfl _ rfl (by simp) (fun K hK => ?_)
            apply Exists.intro
            refine ⟨fun wq K' hK' => ?_, ?_⟩
            · go_wp2_with fail
              exact hK'
            go_simp
            refine hK _ ?_
            clear hK K
            refine tree_p rfl rfl rfl rfl _ rfl (by simp) (fun K hK => ?_)
            apply Exists.intro
            refine ⟨fun wq K' hK' => ?_, ?_⟩
            · go_wp2_with fail
              exact hK'
            go_simp
            refine hK _ ?_
            clear hK K
            refine tree_e rfl rfl (fun K hK => ?_)
            go_wp2_with fail
            try go_simp
            refine hK _ _ (gr_alloc (gr_trans hgW1b (gr_trans hg2 hg4)) _) ?_
            clear hK K
            obtain ⟨w13, hw13⟩ : ∃ x, x = (w12).alloc (.cells #[.slice none 0 0, .slice none 0 0] 29) := ⟨_, rfl⟩
            have hgn8 : (w12).grownBy w13 none := by rw [hw13]; exact gr_alloc (World.grownBy.refl _ _) _
            have hg8 : (w12).grownBy w13 (some b) := gr_any hgn8
            have hb8 : Box w13 (w12).heap.size 29 [.slice none 0 0, .slice none 0 0] := by rw [hw13]; exact Box.new _ _ _
            have hxs8 := hb8.lt
            rw [← hw13]
            clear hw13
            obtain ⟨x8, hx8⟩ : ∃ x, x = (w12).heap.size := ⟨_, rfl⟩
            rw [← hx8] at hb8 hxs8 ⊢
            have hxl8 : w10.heap.size ≤ x8 := by rw [hx8]; exact (gr_trans hgW1b (gr_trans hg2 hg4)).size
            have hxg8 : (w12).heap.size ≤ x8 := by omega
            clear hx8
            refine tree_e0 (by kernel_rfl) rfl rfl (fun K hK => ?_)
            have hbx := hb8.gr (r := some b) (w' := w13) (World.grownBy.refl _ _) (by simp; omega)
            obtain ⟨y0, z0⟩ := hbx.c 0 rfl
            obtain ⟨y1, z1⟩ := hbx.c 1 rfl
            have hF : MVR w10 b vs fs (.pointer (some ⟨x8, 0, none⟩)) (.int .i64 MV.2) (((w13).setCell ⟨x8, 0, none⟩ (.slice A5 MV.1.vs.length c5)).setCell ⟨x8, 1, none⟩ (.slice B5 MV.1.fs.length d5)) := by
              have hgf : w10.grownBy (((w13).setCell ⟨x8, 0, none⟩ (.slice A5 MV.1.vs.length c5)).setCell ⟨x8, 1, none⟩ (.slice B5 MV.1.fs.length d5)) (some b) := gr_set (gr_set (gr_trans hgW1b (gr_trans (gr_trans hg2 hg4) hg8)) (.inr (by omega)) _) (.inr (by omega)) _
              refine ⟨z, x8, hz, rfl, by rw [hMV.out], ⟨by omega, A5, c5, B5, d5, ?_, ?_, ?_, ?_⟩, hgf⟩
              · rw [← hMV.out]; go_simp
              · rw [← hMV.out]; go_simp
              · rw [← hMV.out]
                first
                  | exact (xa.pure (gr_set (gr_set hgn8 (.inr hxg8) _) (.inr hxg8) _)).mono hls
                  | exact (xa.gr (gr_set (gr_set (World.grownBy.refl w12 (some x8)) (.inl rfl) _) (.inl rfl) _) (fun g e => by injection e; omega)).mono hls
              · rw [← hMV.out]
                first
                  | exact (xb.pure (gr_set (gr_set hgn8 (.inr hxg8) _) (.inr hxg8) _)).mono hls
                  | exact (xb.gr (gr_set (gr_set (World.grownBy.refl w12 (some x8)) (.inl rfl) _) (.inl rfl) _) (fun g e => by injection e; omega)).mono hls
            replace hF := hide hF
            go_wp2_with fail
            try go_simp
            refine hK _ _ trivial ?_
            clear hK K
            refine tree_p rfl rfl rfl rfl _ rfl (by simp) (fun K hK => ?_)
            apply Exists.intro
            refine ⟨fun wq K' hK' => ?_, ?_⟩
            · go_wp2_with fail
              exact hK'
            go_simp
            refine hK _ ?_
            clear hK K
            refine tree_done ?_
            go_wp2_with fail
            go_meet
            exact hF.out
          · refine tree_e rfl rfl (fun K hK => ?_)
            go_wp2_with fail
            try go_simp
            refine hK _ _ (gr_alloc (gr_trans hgW1b hg2) _) ?_
            clear hK K
            obtain ⟨w13, hw13⟩ : ∃ x, x = (w11).alloc (.cells #[.slice none 0 0, .slice none 0 0] 29) := ⟨_, rfl⟩
            have hgn8 : (w11).grownBy w13 none := by rw [hw13]; exact gr_alloc (World.grownBy.refl _ _) _
            have hg8 : (w11).grownBy w13 (some b) := gr_any hgn8
            have hb8 : Box w13 (w11).heap.size 29 [.slice none 0 0, .slice none 0 0] := by rw [hw13]; exact Box.new _ _ _
            have hxs8 := hb8.lt
            rw [← hw13]
            clear hw13
            obtain ⟨x8, hx8⟩ : ∃ x, x = (w11).heap.size := ⟨_, rfl⟩
            rw [← hx8] at hb8 hxs8 ⊢
            have hxl8 : w10.heap.size ≤ x8 := by rw [hx8]; exact (gr_trans hgW1b hg2).size
            have hxg8 : (w11).heap.size ≤ x8 := by omega
            clear hx8
            refine tree_e0 (by kernel_rfl) rfl rfl (fun K hK => ?_)
            have hGx := gr_trans hgW1b (gr_trans hg2 hg8)
            obtain ⟨MV, hMV⟩ : ∃ MV, MV = moveR ⟨vs, fs⟩ ⟨5, -3, z⟩ := ⟨_, rfl⟩
            have hMo := moved_any A2 c2 vs B2 d2 fs ⟨5, -3, z⟩ w13 ((r0.gr hGx (fun g e => by injection e; omega)).mono (Nat.zero_le _)) ((r1.gr hGx (fun g e => by injection e; omega)).mono (Nat.zero_le _))
            rw [← hMV] at hMo
            replace hMV := hide hMV
            replace hMo := hide hMo
            have hx84 : x8 < (w13).heap.size := Nat.lt_of_lt_of_le hxs8 ((World.grownBy.refl _ _) : World.grownBy _ _ (some b)).size
            have hls : b + 1 ≤ (w13).heap.size := Nat.le_trans hl11 ((gr_trans hg2 hg8)).size
            go_wp2_with fail
            refine hMo.out.mono ?_
            rintro e w12 ⟨A5, c5, B5, d5, rfl, xa, xb, g12⟩
            have hg4 : (w13).grownBy w12 (some b) := gr_any g12
            clear hMo
            go_wp2_with fail
            try go_simp
            refine hK _ _ trivial ?_
            clear hK K
            refine tree_p rfl rfl rfl rfl _ rfl (by simp) (fun K hK => ?_)
            apply Exists.intro
            refine ⟨fun wq K' hK' => ?_, ?_⟩
            · go_wp2_with fail
              exact hK'
            go_simp
            refine hK _ ?_
            clear hK K
            refine tree_p rfl rfl rfl rfl _ rfl (by simp) (fun K hK => ?_)
            apply Exists.intro
            refine ⟨fun wq K' hK' => ?_, ?_⟩
            · go_wp2_with fail
              exact hK'
            go_simp
            refine hK _ ?_
            clear hK K
            refine tree_p rfl rfl rfl rfl _ rfl (by simp) (fun K hK => ?_)
            apply Exists.intro
            refine ⟨fun wq K' hK' => ?_, ?_⟩
            · go_wp2_with fail
              exact hK'
            go_simp
            refine hK _ ?_
            clear hK K
            refine tree_e0 (by kernel_rfl) rfl rfl (fun K hK => ?_)
            have hbx := hb8.gr (r := some b) (w' := w12) hg4 (by simp; omega)
            obtain ⟨y0, z0⟩ := hbx.c 0 rfl
            obtain ⟨y1, z1⟩ := hbx.c 1 rfl
            have hF : MVR w10 b vs fs (.pointer (some ⟨x8, 0, none⟩)) (.int .i64 MV.2) (((w12).setCell ⟨x8, 0, none⟩ (.slice A5 MV.1.vs.length c5)).setCell ⟨x8, 1, none⟩ (.slice B5 MV.1.fs.length d5)) := by
              have hgf : w10.grownBy (((w12).setCell ⟨x8, 0, none⟩ (.slice A5 MV.1.vs.length c5)).setCell ⟨x8, 1, none⟩ (.slice B5 MV.1.fs.length d5)) (some b) := gr_set (gr_set (gr_trans hgW1b (gr_trans (gr_trans hg2 hg8) hg4)) (.inr (by omega)) _) (.inr (by omega)) _
              refine ⟨z, x8, hz, rfl, by rw [hMV.out], ⟨by omega, A5, c5, B5, d5, ?_, ?_, ?_, ?_⟩, hgf⟩
              · rw [← hMV.out]; go_simp
              · rw [← hMV.out]; go_simp
              · rw [← hMV.out]
                first
                  | exact (xa.pure (gr_set (gr_set hgn8 (.inr hxg8) _) (.inr hxg8) _)).mono hls
                  | exact (xa.gr (gr_set (gr_set (World.grownBy.refl w12 (some x8)) (.inl rfl) _) (.inl rfl) _) (fun g e => by injection e; omega)).mono hls
              · rw [← hMV.out]
                first
                  | exact (xb.pure (gr_set (gr_set hgn8 (.inr hxg8) _) (.inr hxg8) _)).mono hls
                  | exact (xb.gr (gr_set (gr_set (World.grownBy.refl w12 (some x8)) (.inl rfl) _) (.inl rfl) _) (fun g e => by injection e; omega)).mono hls
            replace hF := hide hF
            go_wp2_with fail
            try go_simp
            refine hK _ _ trivial ?_
            clear hK K
            refine tree_p rfl rfl rfl rfl _ rfl (by simp) (fun K hK => ?_)
            apply Exists.intro
            refine ⟨fun wq K' hK' => ?_, ?_⟩
            · go_wp2_with fail
              exact hK'
            go_simp
            refine hK _ ?_
            clear hK K
            refine tree_done ?_
            go_wp2_with fail
            go_meet
            exact hF.out
        · refine tree_e rfl rfl (fun K hK => ?_)
          go_wp2_with fail
          try go_simp
          refine hK _ _ (gr_alloc (gr_trans hgW1b (World.grownBy.refl _ _)) _) ?_
          clear hK K
          obtain ⟨w13, hw13⟩ : ∃ x, x = (W1).alloc (.cells #[.slice none 0 0, .slice none 0 0] 29) := ⟨_, rfl⟩
          have hgn8 : (W1).grownBy w13 none := by rw [hw13]; exact gr_alloc (World.grownBy.refl _ _) _
          have hg8 : (W1).grownBy w13 (some b) := gr_any hgn8
          have hb8 : Box w13 (W1).heap.size 29 [.slice none 0 0, .slice none 0 0] := by rw [hw13]; exact Box.new _ _ _
          have hxs8 := hb8.lt
          rw [← hw13]
          clear hw13
          obtain ⟨x8, hx8⟩ : ∃ x, x = (W1).heap.size := ⟨_, rfl⟩
          rw [← hx8] at hb8 hxs8 ⊢
          have hxl8 : w10.heap.size ≤ x8 := by rw [hx8]; exact (gr_trans hgW1b (World.grownBy.refl _ _)).size
          have hxg8 : (W1).heap.size ≤ x8 := by omega
          clear hx8
          refine tree_e rfl rfl (fun K hK => ?_)
          have hsx := hs11.pure hgn8
          go_wp2_with fail
          refine (range_any _ 4482 (-9) 9 _ (by exact hsx) (by omega) (by omega) (by omega) (by omega)).mono ?_
          rintro e w11 ⟨z, rfl, hz, ho11⟩
          have hg2 := ho11.1
          go_wp2_with fail
          try go_simp
          refine hK _ _ ((gr_trans hgW1b (gr_trans hg8 hg2))) ?_
          clear hK K
          refine tree_p rfl rfl rfl rfl _ rfl (by simp) (fun K hK => ?_)
          apply Exists.intro
          refine ⟨fun wq K' hK' => ?_, ?_⟩
          · go_wp2_with fail
            exact hK'
          go_simp
          refine hK _ ?_
          clear hK K
          refine tree_e0 (by kernel_rfl) rfl rfl (fun K hK => ?_)
          have hGx := gr_trans hgW1b (gr_trans hg8 hg2)
          obtain ⟨MV, hMV⟩ : ∃ MV, MV = moveR ⟨vs, fs⟩ ⟨5, -3, z⟩ := ⟨_, rfl⟩
          have hMo := moved_any A2 c2 vs B2 d2 fs ⟨5, -3, z⟩ w11 ((r0.gr hGx (fun g e => by injection e; omega)).mono (Nat.zero_le _)) ((r1.gr hGx (fun g e => by injection e; omega)).mono (Nat.zero_le _))
          rw [← hMV] at hMo
          replace hMV := hide hMV
          replace hMo := hide hMo
          have hx84 : x8 < (w11).heap.size := Nat.lt_of_lt_of_le hxs8 (hg2 : World.grownBy _ _ (some b)).size
          have hls : b + 1 ≤ (w11).heap.size := Nat.le_trans hl11 ((gr_trans hg8 hg2)).size
          go_wp2_with fail
          refine hMo.out.mono ?_
          rintro e w12 ⟨A5, c5, B5, d5, rfl, xa, xb, g12⟩
          have hg4 : (w11).grownBy w12 (some b) := gr_any g12
          clear hMo
          go_wp2_with fail
          try go_simp
          refine hK _ _ trivial ?_
          clear hK K
          refine tree_p rfl rfl rfl rfl _ rfl (by simp) (fun K hK => ?_)
          apply Exists.intro
          refine ⟨fun wq K' hK' => ?_, ?_⟩
          · go_wp2_with fail
            exact hK'
          go_simp
          refine hK _ ?_
          clear hK K
          refine tree_p rfl rfl rfl rfl _ rfl (by simp) (fun K hK => ?_)
          apply Exists.intro
          refine ⟨fun wq K' hK' => ?_, ?_⟩
          · go_wp2_with fail
            exact hK'
          go_simp
          refine hK _ ?_
          clear hK K
          refine tree_p rfl rfl rfl rfl _ rfl (by simp) (fun K hK => ?_)
          apply Exists.intro
          refine ⟨fun wq K' hK' => ?_, ?_⟩
          · go_wp2_with fail
            exact hK'
          go_simp
          refine hK _ ?_
          clear hK K
          refine tree_e0 (by kernel_rfl) rfl rfl (fun K hK => ?_)
          have hbx := hb8.gr (r := some b) (w' := w12) (gr_trans hg2 hg4) (by simp; omega)
          obtain ⟨y0, z0⟩ := hbx.c 0 rfl
          obtain ⟨y1, z1⟩ := hbx.c 1 rfl
          have hF : MVR w10 b vs fs (.pointer (some ⟨x8, 0, none⟩)) (.int .i64 MV.2) (((w12).setCell ⟨x8, 0, none⟩ (.slice A5 MV.1.vs.length c5)).setCell ⟨x8, 1, none⟩ (.slice B5 MV.1.fs.length d5)) := by
            have hgf : w10.grownBy (((w12).setCell ⟨x8, 0, none⟩ (.slice A5 MV.1.vs.length c5)).setCell ⟨x8, 1, none⟩ (.slice B5 MV.1.fs.length d5)) (some b) := gr_set (gr_set (gr_trans hgW1b (gr_trans (gr_trans hg8 hg2) hg4)) (.inr (by omega)) _) (.inr (by omega)) _
            refine ⟨z, x8, hz, rfl, by rw [hMV.out], ⟨by omega, A5, c5, B5, d5, ?_, ?_, ?_, ?_⟩, hgf⟩
            · rw [← hMV.out]; go_simp
            · rw [← hMV.out]; go_simp
            · rw [← hMV.out]
              first
                | exact (xa.pure (gr_set (gr_set hgn8 (.inr hxg8) _) (.inr hxg8) _)).mono hls
                | exact (xa.gr (gr_set (gr_set (World.grownBy.refl w12 (some x8)) (.inl rfl) _) (.inl rfl) _) (fun g e => by injection e; omega)).mono hls
            · rw [← hMV.out]
              first
                | exact (xb.pure (gr_set (gr_set hgn8 (.inr hxg8) _) (.inr hxg8) _)).mono hls
                | exact (xb.gr (gr_set (gr_set (World.grownBy.refl w12 (some x8)) (.inl rfl) _) (.inl rfl) _) (fun g e => by injection e; omega)).mono hls
          replace hF := hide hF
          go_wp2_with fail
          try go_simp
          refine hK _ _ trivial ?_
          clear hK K
          refine tree_p rfl rfl rfl rfl _ rfl (by simp) (fun K hK => ?_)
          apply Exists.intro
          refine ⟨fun wq K' hK' => ?_, ?_⟩
          · go_wp2_with fail
            exact hK'
          go_simp
          refine hK _ ?_
          clear hK K
          refine tree_done ?_
          go_wp2_with fail
          go_meet
          exact hF.out
      case rest =>
      clear p0 p1 r0 r1
      obtain ⟨z, x16, hz, rfl, rfl, hv, hgc⟩ := hcut
      have hmv := hmvF.out z hz
      obtain ⟨MV, hMV⟩ : ∃ MV, MV = moveR ⟨vs, fs⟩ ⟨5, -3, z⟩ := ⟨_, rfl⟩
      rw [← hMV] at hmv hv ⊢
      clear hMV hmvF
      obtain ⟨X, E⟩ := MV
      simp only at hmv hv ⊢
      replace hmv := hide hmv
      have hm := hm10.gr hgc (fun g e => by injection e; omega)
      have ht := ht10.gr hgc (fun g e => by injection e; omega)
      have hk := hk10.gr hgc (fun g e => by injection e; omega)
      have hg := gr_new hg10 hgc hbw
      clear hm10 ht10 hk10 hg10 hgc hs10
      -- mirrored
      have hmm := hm
      obtain ⟨-, A2, c2, B2, d2, p0, p1, r0, r1⟩ := hmm
      go_wp2_with fail
      refine (hMi.out _ _ _ _ _ (r0.mono (Nat.zero_le _)) (r1.mono (Nat.zero_le _))).mono ?_
      rintro e w17 ⟨A3, c3, B3, d3, rfl, xa, xb, g17⟩
      have hloc : b + 1 ≤ wc.heap.size := by have := cell_lt p0; simp only at *; omega
      have hlo17 : b + 1 ≤ w17.heap.size := by have := g17.size; omega
      have hw := MBo.new (c := c3) (d := d3) (m := ⟨ms, gs⟩) hlo17 (xa.mono hloc) (xb.mono hloc)
      have hal := gr_trans g17 (gr_alloc (World.grownBy.refl w17 none) (.cells #[.slice A3 ms.length c3, .slice B3 gs.length d3] 29))
      replace hm := hm.pure hal
      replace ht := ht.pure hal
      replace hk := hk.pure hal
      replace hv := hv.pure hal
      replace hg := gr_trans hg hal
      clear p0 p1 r0 r1 xa xb g17 hMi
      go_upto_region 18 with fail
      generalize w17.heap.size = x18 at *
      generalize w17.alloc (.cells #[.slice A3 ms.length c3, .slice B3 gs.length d3] 29) = w18 at *
      clear hal
      have hmm := hw
      obtain ⟨-, A2, c2, B2, d2, p0, p1, r0, r1⟩ := hmm
      go_wp2_with fail
      refine (hMk.out _ _ _ _ _ (r0.mono (Nat.zero_le _)) (r1.mono (Nat.zero_le _))).mono ?_
      rintro e w19 ⟨A3, c3, B3, d3, rfl, xa, xb, g19⟩
      have hlo18 : b + 1 ≤ w18.heap.size := by have := cell_lt p0; simp only at *; omega
      have hlo19 : b + 1 ≤ w19.heap.size := by have := g19.size; omega
      have hz2 := MBo.new (c := c3) (d := d3) (m := ⟨vs, fs⟩) hlo19 (xa.mono hlo18) (xb.mono hlo18)
      have hal := gr_trans g19 (gr_alloc (World.grownBy.refl w19 none) (.cells #[.slice A3 vs.length c3, .slice B3 fs.length d3] 29))
      replace hm := hm.pure hal
      replace ht := ht.pure hal
      replace hk := hk.pure hal
      replace hv := hv.pure hal
      replace hw := hw.pure hal
      replace hg := gr_trans hg hal
      clear p0 p1 r0 r1 xa xb g19 hMk
      go_upto_region 19 with fail
      generalize w19.heap.size = x20 at *
      generalize w19.alloc (.cells #[.slice A3 vs.length c3, .slice B3 fs.length d3] 29) = w20 at *
      clear hal
      -- the same
      have hmm := hm
      obtain ⟨-, A2, c2, B2, d2, p0, p1, r0, r1⟩ := hmm
      have hkk := hk
      obtain ⟨-, A4, c4, B4, d4, s0, s1, t0, t1⟩ := hkk
      have hSm := hide (sameMesh_any A4 c4 vs B4 d4 fs A2 c2 B2 d2 w20 (t0.mono (Nat.zero_le _)) (t1.mono (Nat.zero_le _)) (r0.mono (Nat.zero_le _)) (r1.mono (Nat.zero_le _)))
      go_wp2_with fail
      refine hSm.out.mono ?_
      rintro e w21 ⟨rfl, g21⟩
      clear hSm p0 p1 r0 r1 s0 s1 t0 t1
      replace hm := hm.pure g21
      replace ht := ht.pure g21
      replace hv := hv.pure g21
      replace hw := hw.pure g21
      replace hz2 := hz2.pure g21
      replace hg := gr_trans hg g21
      clear g21 hk
      have hmm := hm
      obtain ⟨-, A2, c2, B2, d2, p0, p1, r0, r1⟩ := hmm
      have hkk := hz2
      obtain ⟨-, A4, c4, B4, d4, s0, s1, t0, t1⟩ := hkk
      have hSm := hide (sameMesh_any A4 c4 vs B4 d4 fs A2 c2 B2 d2 w21 (t0.mono (Nat.zero_le _)) (t1.mono (Nat.zero_le _)) (r0.mono (Nat.zero_le _)) (r1.mono (Nat.zero_le _)))
      go_wp2_with fail
      refine hSm.out.mono ?_
      rintro e w22 ⟨rfl, g22⟩
      clear hSm p0 p1 r0 r1 s0 s1 t0 t1
      replace ht := ht.pure g22
      replace hv := hv.pure g22
      replace hw := hw.pure g22
      replace hg := gr_trans hg g22
      clear g22 hm hz2
      obtain ⟨-, A2, c2, B2, d2, p0, p1, r0, r1⟩ := ht
      obtain ⟨-, A4, c4, B4, d4, s0, s1, t0, t1⟩ := hw
      go_upto_region 22 with fail
      have g23 := gr_alloc (World.grownBy.refl w22 none) (.cells #[.slice A2 ts.length c2, .slice B2 fs.length d2, .slice A4 ms.length c4, .slice B4 gs.length d4] 29)
      have y0 : (w22.alloc (.cells #[.slice A2 ts.length c2, .slice B2 fs.length d2, .slice A4 ms.length c4, .slice B4 gs.length d4] 29)).cell? ⟨w22.heap.size, 0, none⟩ = some (.slice A2 ts.length c2) := by go_simp
      have y1 : (w22.alloc (.cells #[.slice A2 ts.length c2, .slice B2 fs.length d2, .slice A4 ms.length c4, .slice B4 gs.length d4] 29)).cell? ⟨w22.heap.size, 1, none⟩ = some (.slice B2 fs.length d2) := by go_simp
      have y2 : (w22.alloc (.cells #[.slice A2 ts.length c2, .slice B2 fs.length d2, .slice A4 ms.length c4, .slice B4 gs.length d4] 29)).cell? ⟨w22.heap.size, 2, none⟩ = some (.slice A4 ms.length c4) := by go_simp
      have y3 : (w22.alloc (.cells #[.slice A2 ts.length c2, .slice B2 fs.length d2, .slice A4 ms.length c4, .slice B4 gs.length d4] 29)).cell? ⟨w22.heap.size, 3, none⟩ = some (.slice B4 gs.length d4) := by go_simp
      replace hv := hv.pure g23
      replace hg := gr_trans hg g23
      replace r0 := (r0.pure g23).mono (Nat.zero_le _)
      replace r1 := (r1.pure g23).mono (Nat.zero_le _)
      replace t0 := (t0.pure g23).mono (Nat.zero_le _)
      replace t1 := (t1.pure g23).mono (Nat.zero_le _)
      clear p0 p1 s0 s1
      generalize w22.heap.size = x22 at *
      generalize w22.alloc (.cells #[.slice A2 ts.length c2, .slice B2 fs.length d2, .slice A4 ms.length c4, .slice B4 gs.length d4] 29) = w23 at *
      clear g23
      have gz := World.grownBy.refl w23 none
      go_loopw [134] (fun i wr => ∃ k : Nat, k ≤ 2 ∧ i = .int .i64 k ∧ w23.grownBy wr none) (fun i _ => 2 - (intOf i).toNat)
      case atStart => exact ⟨0, by omega, rfl, gz⟩
      case round =>
        clear gz
        obtain ⟨k, hk, rfl, g24⟩ := hrel
        obtain rfl | rfl | rfl : k = 0 ∨ k = 1 ∨ k = 2 := by omega
        · have z0 := g24.k y0
          have z1 := g24.k y1
          go_wp2_with fail
          refine (hVt2.out _ _ _ _ _ ((r0.pure g24).pure (gr_alloc (World.grownBy.refl _ _) _)) ((r1.pure g24).pure (gr_alloc (World.grownBy.refl _ _) _))).mono ?_
          rintro e w25 ⟨rfl, g25⟩
          have g26 := gr_trans (gr_alloc g24 _) g25
          clear g25
          go_wp2_with fail
          go_roundw
          case rel => exact ⟨1, by omega, rfl, g26⟩
          case measure => simp [intOf]
        · have z0 := g24.k y2
          have z1 := g24.k y3
          go_wp2_with fail
          refine (hVm2.out _ _ _ _ _ ((t0.pure g24).pure (gr_alloc (World.grownBy.refl _ _) _)) ((t1.pure g24).pure (gr_alloc (World.grownBy.refl _ _) _))).mono ?_
          rintro e w25 ⟨rfl, g25⟩
          have g26 := gr_trans (gr_alloc g24 _) g25
          clear g25
          go_wp2_with fail
          go_roundw
          case rel => exact ⟨2, by omega, rfl, g26⟩
          case measure => simp [intOf]
        · replace hv := hv.pure g24
          replace hg := gr_trans hg g24
          clear y0 y1 y2 y3 r0 r1 t0 t1 g24
          rcases hmv.out with rfl | ⟨xs, hX, hMx, hVx⟩
          · clear hv hmv
            go_wp2_with fail
            refine (ready_any _).mono ?_
            rintro e w9 ⟨rfl, h1⟩
            go_wp2_with fail
            go_ret
            exact ⟨rfl, gr_trans hg h1⟩
          · injection hX with e1 e2
            subst e1 e2
            obtain ⟨-, A2, c2, B2, d2, p0, p1, r0, r1⟩ := hv
            have hVx2 := meshVolume_any A2 c2 xs B2 d2 fs wr (r0.mono (Nat.zero_le _)) (r1.mono (Nat.zero_le _)) hMx
            rw [show volR xs fs = N by unfold volR; rw [if_pos (closed_open.1 hcl.out), hVx], show closE fs = 0 by unfold closE; rw [if_pos (closed_open.1 hcl.out)]] at hVx2
            replace hVx2 := hide hVx2
            clear hmv hMx hVx
            go_wp2_with fail
            refine hVx2.out.mono ?_
            rintro e w8 ⟨rfl, g8⟩
            clear hVx2 p0 p1 r0 r1
            go_wp2_with fail
            refine (ready_any _).mono ?_
            rintro e w9 ⟨rfl, h1⟩
            go_wp2_with fail
            go_ret
            exact ⟨rfl, gr_trans hg (gr_trans g8 h1)⟩

end Go.Proofs.YtbpkkgeedkegcaaGreatDoor
