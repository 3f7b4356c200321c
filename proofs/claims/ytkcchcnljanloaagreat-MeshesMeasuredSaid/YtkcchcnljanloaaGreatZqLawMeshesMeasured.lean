/- Contracts of functions that this seat's laws reach, each: what one call returns and what it leaves in memory; no condition beyond each theorem's own hypotheses. -/
import Derived.Test.YtkcchcnljanloaaGreatZqMeasI
import Derived.Test.YtkcchcnljanloaaGreatZqMeasH
import Derived.Test.YtkcchcnljanloaaGreatZqMeshCA
import Derived.Test.YtkcchcnljanloaaGreatZqShellSub
import Derived.Test.YtkcchcnljanloaaGreatZqMeshH
import Derived.Deep.DeepCutAuto
set_option linter.unusedVariables false
set_option linter.unusedSimpArgs false
namespace Go.Proofs.YtkcchcnljanloaaGreat
open Go Go.RowKit Go.Bl

theorem noneF_any (b : Bool) (w : World) :
    Calls Tryz.prog 16 #[.bool b] w fun e w' => e = .returned (.int .i64 (if b then 8 else 0)) ∧ w = w' := by
  cases b <;> (go_enter Tryz.func16, Tryz.ntmps16; go_wp2; go_ret; exact ⟨rfl, rfl⟩)

set_option maxHeartbeats 4000000 in
set_option maxRecDepth 100000 in
theorem meshesMeasured_law (A : Option Addr) (n c : Nat) (L : List Int) (w : World) (hL : Sl w 0 A L) (hn : L.length = n) :
    Calls Tryz.prog 3 #[.slice A n c] w fun e w' => e = .returned (.bool true) ∧ w.grownBy w' none := by
  have hs0 := strm_new (c := c) 25 hL hn
  have hg0 := gr_alloc (World.grownBy.refl w none) (.cells #[.slice A n c, .int .i64 0] 25)
  go_enter Tryz.func3, Tryz.ntmps3
  go_wp2_with fail
  refine (aMesh_any _ 0 _ hs0 (by omega)).mono ?_
  rintro e w1 ⟨A1, c1, vs, B1, d1, fs, rfl, hl, hf, ho1, hvl, hfl⟩
  replace hg0 := gr_new hg0 ho1.1 (Nat.le_refl _)
  have hsz := ho1.1.size
  have hsz1 : (w.alloc (.cells #[.slice A n c, .int .i64 0] 25)).heap.size = w.heap.size + 1 := by simp
  rw [hsz1] at hsz
  have hs1 := ho1.2
  obtain ⟨b, hb⟩ : ∃ b, b = w.heap.size := ⟨_, rfl⟩
  rw [← hb] at hs1 hl hf hsz
  have hbw : w.heap.size ≤ b := by omega
  clear hs0 ho1 hsz1
  obtain ⟨W2, hW2⟩ : ∃ x, x = w1.alloc (.cells #[.slice A1 vs.length c1, .slice B1 fs.length d1] 29) := ⟨_, rfl⟩
  have hal : w1.grownBy W2 none := by rw [hW2]; exact gr_alloc (World.grownBy.refl _ _) _
  have m0 : W2.cell? ⟨w1.heap.size, 0, none⟩ = some (.slice A1 vs.length c1) := by rw [hW2]; go_simp
  have m1 : W2.cell? ⟨w1.heap.size, 1, none⟩ = some (.slice B1 fs.length d1) := by rw [hW2]; go_simp
  replace hl := hl.pure hal
  replace hf := hf.pure hal
  replace hs1 := hs1.pure hal
  replace hg0 := gr_trans hg0 hal
  have hb2 : b + 1 ≤ W2.heap.size := Nat.le_trans hsz hal.size
  go_upto_region 3 with fail
  rw [← hW2, ← hb]
  clear hW2 hal hb
  generalize w1.heap.size = x4 at *
  clear w1
  have hal2 := gr_alloc (World.grownBy.refl W2 none) (.cells #[.int .i64 0, .int .i64 1, .int .i64 3, .int .i64 (-1), .int .i64 (fs.length : Int)] 3)
  have hPk := pick_any b (0 + 70) (some ⟨W2.heap.size, 0, none⟩) 5 5 [0, 1, 3, -1, (fs.length : Int)] (W2.alloc (.cells #[.int .i64 0, .int .i64 1, .int .i64 3, .int .i64 (-1), .int .i64 (fs.length : Int)] 3)) (hs1.pure hal2) (by omega) (sl_intsAt W2 (b + 1) 3 [0, 1, 3, -1, (fs.length : Int)] _ rfl hb2 (by simp [maxLen])) rfl (by omega)
  replace hPk := hide hPk
  go_wp2_with fail
  refine hPk.out.mono ?_
  rintro e w3 ⟨face, rfl, hmem, ho3⟩
  clear hPk
  have hfr := gr_trans (gr_any hal2) ho3.1
  replace m0 := gr_cell hfr m0 (by simp; omega)
  replace m1 := gr_cell hfr m1 (by simp; omega)
  replace hl := (hl.gr hfr (fun g e => by injection e; omega)).mono (Nat.zero_le _)
  replace hf := (hf.gr hfr (fun g e => by injection e; omega)).mono (Nat.zero_le _)
  replace hg0 := gr_new hg0 hfr hbw
  clear hal2 ho3 hfr hs1
  have hB : ∀ wx, w3.grownBy wx none → wx.cell? ⟨x4, 0, none⟩ = some (.slice A1 vs.length c1) ∧ wx.cell? ⟨x4, 1, none⟩ = some (.slice B1 fs.length d1) ∧ Sl wx 0 A1 vs ∧ Sl wx 0 B1 fs := fun wx h => ⟨h.k m0, h.k m1, hl.pure h, hf.pure h⟩
  replace hB := hide hB
  have hMF := hide (meshFault_any A1 c1 vs B1 d1 fs w3 hl hf)
  clear hl hf
  go_wp2_with fail
  refine hMF.out.mono ?_
  rintro e w4 ⟨rfl, g4⟩
  clear hMF m0 m1
  by_cases hM : meshF ⟨vs, fs⟩ = 0
  · as_aux_lemma =>
    rw [hM]
    have hok := meshOk.1 hM
    have hin : ∀ f ∈ fs, inF vs.length f = true := fun f hf => faceF_in (hok.face f hf)
    have hne : cornV vs fs ≠ [] := fun e => used_ne hM (List.eq_nil_iff_forall_not_mem.2 fun v hv => by
      have := (used_corn hin v).1 hv
      rw [e] at this
      exact absurd this (List.not_mem_nil))
    have hO := fun W h1 h2 => openGo_any A1 c1 vs B1 d1 fs W h1 h2 hM
    have hX := fun W h1 h2 => boxGo_any A1 c1 vs B1 d1 fs W h1 h2 hM
    have hS := fun W h1 h2 => meshShells_any A1 c1 vs B1 d1 fs W h1 h2 hM
    have hV := fun W h1 h2 => meshVolume_any A1 c1 vs B1 d1 fs W h1 h2 hM
    have hVs := fun W h1 h2 => volumes_any A1 c1 vs B1 d1 fs W h1 h2 hM
    have hOR := fun W h2 => openRef_any A1 vs.length c1 B1 d1 fs W h2 hok.fl
    have hXR := fun W h1 h2 => boxRef_any A1 c1 vs B1 d1 fs W h1 h2 hin hok.fl hne
    have hSR := fun W h2 => shellsOf_any A1 vs.length c1 B1 d1 fs W h2 hok.fl (fun f hf => face_dist2 (hok.face f hf))
    have hVR := fun (hcl : openS fs = []) W h1 h2 => volumesOf_any A1 c1 vs B1 d1 fs W h1 h2 hM (closed_open.2 hcl)
    have hV1 := fun (hcl : openS fs = []) W h1 h2 => volumeOf_mesh A1 c1 vs B1 d1 fs W h1 h2 hM (closed_open.2 hcl)
    have hfar := hok.near
    have hNR := fun k (hk : k < fs.length) W h1 => normalRef_any A1 c1 vs B1 fs.length d1 fs[k] W h1 hfar (hin _ (List.getElem_mem hk))
    obtain ⟨NR, eN, hN, hNc⟩ : ∃ (NR : V3) (eN : Int), (∀ W, Sl W 0 A1 vs → Sl W 0 B1 fs → Calls Tryz.prog 10 #[.agg #[.slice A1 vs.length c1, .slice B1 fs.length d1], .int .i64 face] W fun e w' => e = .returned (.tuple #[.agg #[.int .i64 NR.x, .int .i64 NR.y, .int .i64 NR.z], .int .i64 eN]) ∧ W.grownBy w' none) ∧ ((∃ k : Nat, ∃ hk : k < fs.length, face = k ∧ eN = 0 ∧ NR = normV vs fs[k]) ∨ ((face < 0 ∨ (fs.length : Int) ≤ face) ∧ eN = 8 ∧ NR = ⟨0, 0, 0⟩)) := by
      by_cases hr : face < 0 ∨ (fs.length : Int) ≤ face
      · exact ⟨⟨0, 0, 0⟩, 8, fun W h1 h2 => normalNone_any A1 c1 vs B1 d1 fs face W h1 h2 hM hr, .inr ⟨hr, rfl, rfl⟩⟩
      · obtain ⟨k, rfl⟩ : ∃ k : Nat, face = k := ⟨face.toNat, by omega⟩
        have hk : k < fs.length := by omega
        exact ⟨normV vs fs[k], 0, fun W h1 h2 => normalOk_any A1 c1 vs B1 d1 fs k W h1 h2 hM hk, .inl ⟨k, hk, rfl, rfl, rfl⟩⟩
    have hfl1 := hok.fl
    replace hin := hide hin
    replace hne := hide hne
    replace hM := hide hM
    replace hO := hide hO
    replace hX := hide hX
    replace hS := hide hS
    replace hV := hide hV
    replace hVs := hide hVs
    replace hOR := hide hOR
    replace hXR := hide hXR
    replace hSR := hide hSR
    replace hVR := hide hVR
    replace hV1 := hide hV1
    replace hNR := hide hNR
    replace hN := hide hN
    replace hNc := hide hNc
    clear hok hfar
    obtain ⟨e0, e1, e2, e3⟩ := hB.out w4 g4
    go_wp2_with fail
    refine (hO.out _ e2 e3).mono ?_
    rintro e w5 ⟨l1, O1, k1, rfl, ho5, hp1, hr1, g5⟩
    have hl5 := ho5.sl.mono (Nat.zero_le _)
    replace g5 := gr_trans g4 g5
    replace hp1 := hide hp1
    replace hr1 := hide hr1
    clear e0 e1 e2 e3 hO g4 ho5
    obtain ⟨e0, e1, e2, e3⟩ := hB.out w5 g5
    go_wp2_with fail
    refine (hX.out _ e2 e3).mono ?_
    rintro e w6 ⟨L6, H6, rfl, hx6, g6⟩
    replace hx6 := hide hx6
    obtain ⟨W7, hW7⟩ : ∃ x, x = (w6.alloc (.cells #[.int .i64 L6.x, .int .i64 L6.y, .int .i64 L6.z] 38)).alloc (.cells #[.int .i64 H6.x, .int .i64 H6.y, .int .i64 H6.z] 38) := ⟨_, rfl⟩
    have hal7 : w6.grownBy W7 none := by rw [hW7]; exact (by repeat (first | exact World.grownBy.refl _ _ | assumption | refine gr_alloc ?_ _ | (apply gr_tail; assumption) | refine gr_drewN ?_ _ | refine gr_drew ?_))
    have u9 : Box3 W7 w6.heap.size L6 := by rw [hW7]; exact ⟨⟨by go_simp, by go_simp⟩, ⟨by go_simp, by go_simp⟩, ⟨by go_simp, by go_simp⟩⟩
    have u10 : Box3 W7 (w6.heap.size + 1) H6 := by rw [hW7]; exact ⟨⟨by go_simp, by go_simp⟩, ⟨by go_simp, by go_simp⟩, ⟨by go_simp, by go_simp⟩⟩
    have hl7 := hl5.pure (gr_trans g6 hal7)
    have g7 := gr_trans (gr_trans g5 g6) hal7
    clear e0 e1 e2 e3 hX g5 g6 hal7 hl5
    go_upto_region 7 with fail
    rw [← hW7]
    clear hW7
    generalize w6.heap.size = x9 at *
    obtain ⟨e0, e1, e2, e3⟩ := hB.out W7 g7
    go_wp2_with fail
    refine (hS.out _ e2 e3).mono ?_
    rintro e w8 ⟨O12, k12, rfl, ho12, g8⟩
    replace u9 := u9.gr g8 (by simp)
    replace u10 := u10.gr g8 (by simp)
    have hl8 := hl7.pure g8
    have hs8 := ho12.toN.sl.mono (Nat.zero_le _)
    replace g8 := gr_trans g7 g8
    clear e0 e1 e2 e3 hS g7 hl7 ho12
    obtain ⟨e0, e1, e2, e3⟩ := hB.out w8 g8
    go_wp2_with fail
    refine (hN.out _ e2 e3).mono ?_
    rintro e w9 ⟨rfl, g9⟩
    have hal9 := gr_alloc (World.grownBy.refl w9 none) (.cells #[.int .i64 NR.x, .int .i64 NR.y, .int .i64 NR.z] 38)
    have u14 : Box3 (w9.alloc (.cells #[.int .i64 NR.x, .int .i64 NR.y, .int .i64 NR.z] 38)) w9.heap.size NR := ⟨⟨by go_simp, by go_simp⟩, ⟨by go_simp, by go_simp⟩, ⟨by go_simp, by go_simp⟩⟩
    replace u9 := (u9.gr g9 (by simp)).gr hal9 (by simp)
    replace u10 := (u10.gr g9 (by simp)).gr hal9 (by simp)
    have hl10 := (hl8.pure g9).pure hal9
    have hs10 := (hs8.pure g9).pure hal9
    have g10 := gr_trans (gr_trans g8 g9) hal9
    clear e0 e1 e2 e3 hN g8 g9 hal9 hl8 hs8
    go_upto_region 9 with fail
    generalize w9.heap.size = x14 at *
    generalize w9.alloc (.cells #[.int .i64 NR.x, .int .i64 NR.y, .int .i64 NR.z] 38) = w10 at *
    obtain ⟨e0, e1, e2, e3⟩ := hB.out w10 g10
    go_wp2_with fail
    refine (hV.out _ e2 e3).mono ?_
    rintro e w11 ⟨rfl, g11⟩
    replace u9 := u9.gr g11 (by simp)
    replace u10 := u10.gr g11 (by simp)
    replace u14 := u14.gr g11 (by simp)
    have hl11 := hl10.pure g11
    have hs11 := hs10.pure g11
    replace g11 := gr_trans g10 g11
    clear e0 e1 e2 e3 hV g10 hl10 hs10
    obtain ⟨e0, e1, e2, e3⟩ := hB.out w11 g11
    go_wp2_with fail
    refine (hVs.out _ e2 e3).mono ?_
    rintro e w12 ⟨O18, k18, rfl, ho18, g12⟩
    replace u9 := u9.gr g12 (by simp)
    replace u10 := u10.gr g12 (by simp)
    replace u14 := u14.gr g12 (by simp)
    have hl12 := hl11.pure g12
    have hs12 := hs11.pure g12
    have hv12 := ho18.sl.mono (Nat.zero_le _)
    replace g12 := gr_trans g11 g12
    clear e0 e1 e2 e3 hVs g11 hl11 hs11 ho18
    obtain ⟨e0, e1, e2, e3⟩ := hB.out w12 g12
    go_wp2_with fail
    refine (hOR.out _ e3).mono ?_
    rintro e w13 ⟨l2, O20, k20, rfl, ho20, hp2, hr2, g13⟩
    obtain rfl : l2 = l1 := srtS_uniq hp2 hp1.out hr2 hr1.out
    have hm13 := ho20.sl.mono (Nat.zero_le _)
    replace u9 := u9.gr g13 (by simp)
    replace u10 := u10.gr g13 (by simp)
    replace u14 := u14.gr g13 (by simp)
    have hl13 := hl12.pure g13
    have hs13 := hs12.pure g13
    have hv13 := hv12.pure g13
    replace g13 := gr_trans g12 g13
    clear e0 e1 e2 e3 hOR g12 hl12 hs12 hv12 ho20 hp2 hr2
    obtain ⟨e0, e1, e2, e3⟩ := hB.out w13 g13
    go_wp2_with fail
    refine (hXR.out _ e2 e3).mono ?_
    rintro e w14 ⟨L7, H7, rfl, hx7, g14⟩
    obtain ⟨rfl, rfl⟩ := hx7.uniq hx6.out fun v => (used_corn hin.out v).symm
    obtain ⟨W15, hW15⟩ : ∃ x, x = (w14.alloc (.cells #[.int .i64 L7.x, .int .i64 L7.y, .int .i64 L7.z] 38)).alloc (.cells #[.int .i64 H7.x, .int .i64 H7.y, .int .i64 H7.z] 38) := ⟨_, rfl⟩
    have hal15 : w14.grownBy W15 none := by rw [hW15]; exact (by repeat (first | exact World.grownBy.refl _ _ | assumption | refine gr_alloc ?_ _ | (apply gr_tail; assumption) | refine gr_drewN ?_ _ | refine gr_drew ?_))
    have u21 : Box3 W15 w14.heap.size L7 := by rw [hW15]; exact ⟨⟨by go_simp, by go_simp⟩, ⟨by go_simp, by go_simp⟩, ⟨by go_simp, by go_simp⟩⟩
    have u22 : Box3 W15 (w14.heap.size + 1) H7 := by rw [hW15]; exact ⟨⟨by go_simp, by go_simp⟩, ⟨by go_simp, by go_simp⟩, ⟨by go_simp, by go_simp⟩⟩
    have g15 := gr_trans g14 hal15
    have hC : ∀ wx, W15.grownBy wx none → Box3 wx x9 L7 ∧ Box3 wx (x9 + 1) H7 ∧ Box3 wx w14.heap.size L7 ∧ Box3 wx (w14.heap.size + 1) H7 ∧ Box3 wx x14 NR ∧ Sl wx 0 O1 l2 ∧ Sl wx 0 O20 l2 ∧ Sl wx 0 O12 (shellsI fs fs.length) ∧ Sl wx 0 O18 (volsF vs fs) := fun wx h =>
      have G := gr_trans g15 h
      ⟨u9.gr G (by simp), u10.gr G (by simp), u21.gr h (by simp), u22.gr h (by simp), u14.gr G (by simp), hl13.pure G, hm13.pure G, hs13.pure G, hv13.pure G⟩
    have gM := gr_trans g13 g15
    replace hC := hide hC
    clear e0 e1 e2 e3 hXR g14 hal15 u9 u10 u14 u21 u22 hl13 hm13 hs13 hv13 g13 g15 hx7 hx6
    go_upto_region 15 with fail
    rw [← hW15]
    clear hW15
    generalize w14.heap.size = x21 at *
    clear w14
    have hcl0 : closE fs = if 0 < l2.length then 11 else 0 := by
      have hpl : l2.length = (openS fs).length := hp1.out.length_eq
      unfold closE
      by_cases h : openS fs = []
      · rw [if_pos h, if_neg (by rw [hpl, h]; simp)]
      · rw [if_neg h, if_pos (by rw [hpl]; exact List.length_pos_iff.2 h)]
    have hcv : (closE fs = 0 ∧ openS fs = [] ∧ volR vs fs = volS vs fs ∧ volsF vs fs = volsS vs fs) ∨ (closE fs = 11 ∧ volR vs fs = 0 ∧ volsF vs fs = []) := by
      by_cases h : openS fs = []
      · left; unfold closE volR volsF; simp [h]
      · right; unfold closE volR volsF; simp [h]
    generalize closE fs = cE at *
    generalize volR vs fs = vR at *
    generalize volsF vs fs = vF at *
    have hBC : ∀ wx, W15.grownBy wx none → wx.cell? ⟨x4, 0, none⟩ = some (.slice A1 vs.length c1) ∧ wx.cell? ⟨x4, 1, none⟩ = some (.slice B1 fs.length d1) ∧ Sl wx 0 A1 vs ∧ Sl wx 0 B1 fs := fun wx h => hB.out wx (gr_trans gM h)
    replace hBC := hide hBC
    replace hcv := hide hcv
    replace hcl0 := hide hcl0
    clear hp1 hr1
    go_cut [23, 24] (fun s23 s24 wx => s23 = .int .i64 eN ∧ s24 = .int .i64 cE ∧ W15.grownBy wx none)
    case first =>
      as_aux_lemma =>
      rcases hNc.out with ⟨k, hk, e1, e2, -⟩ | ⟨hr, e1, -⟩
      · clear hNc hcv hVR hV1 hNR hSR hC
        have h0 : ¬ face < 0 := by omega
        have h1 : ¬ (fs.length : Int) ≤ face := by omega
        obtain ⟨m0, m1, m2, m3⟩ := hBC.out W15 (World.grownBy.refl _ _)
        subst e2
        clear e1
        go_wp2_with fail
        refine (noneF_any false _).mono ?_
        rintro e w16 ⟨rfl, rfl⟩
        go_wp2_with fail
        refine (when_any _ 11 _).mono ?_
        rintro e w17 ⟨he, rfl⟩
        obtain rfl : e = .returned (.int .i64 cE) := by rw [he, hcl0.out]; simp
        clear he
        go_wp2_with fail
        go_meet
        exact ⟨rfl, rfl, World.grownBy.refl _ _⟩
      · clear hNc hcv hVR hV1 hNR hSR hC
        obtain ⟨m0, m1, m2, m3⟩ := hBC.out W15 (World.grownBy.refl _ _)
        subst e1
        by_cases h0 : face < 0
        · clear hr
          go_wp2_with fail
          refine (noneF_any true _).mono ?_
          rintro e w16 ⟨rfl, rfl⟩
          go_wp2_with fail
          refine (when_any _ 11 _).mono ?_
          rintro e w17 ⟨he, rfl⟩
          obtain rfl : e = .returned (.int .i64 cE) := by rw [he, hcl0.out]; simp
          clear he
          go_wp2_with fail
          go_meet
          exact ⟨rfl, rfl, World.grownBy.refl _ _⟩
        · have h1 : (fs.length : Int) ≤ face := by omega
          clear hr
          go_wp2_with fail
          refine (noneF_any true _).mono ?_
          rintro e w16 ⟨rfl, rfl⟩
          go_wp2_with fail
          refine (when_any _ 11 _).mono ?_
          rintro e w17 ⟨he, rfl⟩
          obtain rfl : e = .returned (.int .i64 cE) := by rw [he, hcl0.out]; simp
          clear he
          go_wp2_with fail
          go_meet
          exact ⟨rfl, rfl, World.grownBy.refl _ _⟩
    case rest =>
      as_aux_lemma =>
      obtain ⟨rfl, rfl, hgc⟩ := hcut
      have hal := gr_alloc (World.grownBy.refl wc none) (.cells #[.int .i64 0, .int .i64 0, .int .i64 0] 38)
      have u25 : Box3 (wc.alloc (.cells #[.int .i64 0, .int .i64 0, .int .i64 0] 38)) wc.heap.size ⟨0, 0, 0⟩ := ⟨⟨by go_simp, by go_simp⟩, ⟨by go_simp, by go_simp⟩, ⟨by go_simp, by go_simp⟩⟩
      have hsc := hgc.size
      have hla : wc.heap.size < (wc.alloc (.cells #[.int .i64 0, .int .i64 0, .int .i64 0] 38)).heap.size := by simp
      have hga := gr_trans hgc hal
      go_upto_if 158 with fail
      generalize wc.alloc (.cells #[.int .i64 0, .int .i64 0, .int .i64 0] 38) = w17 at *
      generalize wc.heap.size = x25 at *
      clear hal hgc
      clear wc
      go_cut [25] (fun s25 wx => s25 = .pointer (some ⟨x25, 0, none⟩) ∧ Box3 wx x25 NR ∧ W15.grownBy wx none)
      case first =>
        as_aux_lemma =>
        rcases hNc.out with ⟨k, hk, e1, e2, e3⟩ | ⟨hr, e1, e3⟩
        · clear hNc hcv hVR hV1 hSR hC
          have hNk := hNR.out k hk
          subst e2
          rw [← e3] at hNk
          replace e3 := hide e3
          replace hNk := hide hNk
          replace e1 := hide e1
          clear hNR
          rw [e1.out]
          obtain ⟨p0, p1, p2, p3⟩ := hBC.out w17 hga
          obtain ⟨g, o, cx, rfl, hb0, hb1, rfl, hc⟩ := p3.at_ (by decide) hk
          have v0 : w17.cell? ⟨g, o + k * 3, none⟩ = some (.int .i64 fs[k].a) := hc 0 _ rfl
          have v1 : w17.cell? ⟨g, o + k * 3 + 1, none⟩ = some (.int .i64 fs[k].b) := hc 1 _ rfl
          have v2 : w17.cell? ⟨g, o + k * 3 + 2, none⟩ = some (.int .i64 fs[k].c) := hc 2 _ rfl
          clear hc
          generalize fs[k] = f at *
          have hD : ∀ wx, w17.grownBy wx none → wx.cell? ⟨x4, 0, none⟩ = some (.slice A1 vs.length c1) ∧ wx.cell? ⟨x4, 1, none⟩ = some (.slice (some ⟨g, o, none⟩) fs.length d1) ∧ wx.cell? ⟨g, o + k * 3, none⟩ = some (.int .i64 f.a) ∧ wx.cell? ⟨g, o + k * 3 + 1, none⟩ = some (.int .i64 f.b) ∧ wx.cell? ⟨g, o + k * 3 + 2, none⟩ = some (.int .i64 f.c) ∧ Sl wx 0 A1 vs := fun wx h => ⟨h.k p0, h.k p1, h.k v0, h.k v1, h.k v2, p2.pure h⟩
          replace hD := hide hD
          have h0 : (0 : Int) ≤ k ∧ (k : Int) < fs.length := by omega
          clear hB hBC p0 p1 p2 p3 v0 v1 v2 hb0
          go_upto_region 20 with fail
          refine wp_region_tree (fun wx => w17.grownBy wx none) [1, 2, 1, 2, 2, 1, 0, 0] (.bl 0 (.bl 1 (.bl 2 (.bl 3 (.bl 4 (.bl 5 (.ef 6 (.ef 7 .done)))))))) (by kernel_rfl) (by kernel_rfl) (gr_drew (World.grownBy.refl _ _)) ?_
          obtain ⟨w18, hw18⟩ : ∃ x, x = (w17).drew := ⟨_, rfl⟩
          rw [← hw18]
          have hgw18 : (w17).grownBy w18 none := by rw [hw18]; exact gr_drew (World.grownBy.refl _ _)
          clear hw18
          refine tree_b rfl rfl rfl rfl _ rfl (by simp) (fun K hK => ?_)
          apply Exists.intro
          refine ⟨fun wq hq K' hK' => ?_, ?_⟩
          · obtain ⟨d0, d1, d2, d3, d4, d5⟩ := hD.out wq hq
            go_wp2_with fail
            exact hK'
          go_simp
          refine hK _ ?_
          clear hK K
          refine tree_p rfl rfl rfl rfl _ rfl (by simp) (fun K hK => ?_)
          apply Exists.intro
          refine ⟨fun wq K' hK' => ?_, ?_⟩
          · go_wp2_with fail
            exact hK'
          go_simp
          refine hK _ ?_
          clear hK K
          refine tree_b rfl rfl rfl rfl _ rfl (by simp) (fun K hK => ?_)
          apply Exists.intro
          refine ⟨fun wq hq K' hK' => ?_, ?_⟩
          · obtain ⟨d0, d1, d2, d3, d4, d5⟩ := hD.out wq hq
            go_wp2_with fail
            exact hK'
          go_simp
          refine hK _ ?_
          clear hK K
          refine tree_p rfl rfl rfl rfl _ rfl (by simp) (fun K hK => ?_)
          apply Exists.intro
          refine ⟨fun wq K' hK' => ?_, ?_⟩
          · go_wp2_with fail
            exact hK'
          go_simp
          refine hK _ ?_
          clear hK K
          refine tree_p rfl rfl rfl rfl _ rfl (by simp) (fun K hK => ?_)
          apply Exists.intro
          refine ⟨fun wq K' hK' => ?_, ?_⟩
          · go_wp2_with fail
            exact hK'
          go_simp
          refine hK _ ?_
          clear hK K
          refine tree_b rfl rfl rfl rfl _ rfl (by simp) (fun K hK => ?_)
          apply Exists.intro
          refine ⟨fun wq hq K' hK' => ?_, ?_⟩
          · obtain ⟨d0, d1, d2, d3, d4, d5⟩ := hD.out wq hq
            go_wp2_with fail
            exact hK'
          go_simp
          refine hK _ ?_
          clear hK K
          refine tree_e0 (by kernel_rfl) rfl rfl (fun K hK => ?_)
          go_wp2_with fail
          refine (hNk.out w18 (hD.out w18 hgw18).2.2.2.2.2).mono ?_
          rintro e w6 ⟨rfl, h6⟩
          go_wp2_with fail
          try go_simp
          refine hK _ _ trivial ?_
          clear hK K
          refine tree_e0 (by kernel_rfl) rfl rfl (fun K hK => ?_)
          have hT := gr_trans hgw18 h6
          have v25 := u25.gr hT (by simp)
          obtain ⟨⟨y0, z0⟩, ⟨y1, z1⟩, ⟨y2, z2⟩⟩ := v25
          have hF : Box3 (((w6.setCell ⟨x25, 0, none⟩ (.int .i64 NR.x)).setCell ⟨x25, 1, none⟩ (.int .i64 NR.y)).setCell ⟨x25, 2, none⟩ (.int .i64 NR.z)) x25 NR := Box3.set (u25.gr hT (by simp)) NR
          have hG : W15.grownBy (((w6.setCell ⟨x25, 0, none⟩ (.int .i64 NR.x)).setCell ⟨x25, 1, none⟩ (.int .i64 NR.y)).setCell ⟨x25, 2, none⟩ (.int .i64 NR.z)) none := gr_set (gr_set (gr_set (gr_trans hga hT) (.inr hsc) _) (.inr hsc) _) (.inr hsc) _
          go_wp2_with fail
          try go_simp
          refine hK _ _ trivial ?_
          clear hK K
          refine tree_done ?_
          go_wp2_with fail
          rw [← e1.out]
          go_meet
          exact ⟨rfl, hF, hG⟩
        · clear hNc hcv hVR hV1 hNR hSR hC
          subst e1 e3
          go_wp2_with fail
          go_meet
          exact ⟨rfl, u25, hga⟩
      case rest =>
        as_aux_lemma =>
        obtain ⟨rfl, v25, hgc⟩ := hcut
        generalize wc = w19 at *
        have hE : ∀ wx, w19.grownBy wx none → Box3 wx x25 NR := fun wx h => v25.gr h (by simp)
        replace hE := hide hE
        clear v25 u25 hsc hla hga hNR
        go_upto_if 167 with fail
        go_cut [26, 27] (fun s26 s27 wx => ∃ (O : Option Addr) (co : Nat), s26 = .slice O vF.length co ∧ s27 = .int .i64 vR ∧ Sl wx 0 O vF ∧ w19.grownBy wx none)
        case first =>
          as_aux_lemma =>
          rcases hcv.out with ⟨k1, k2, k3, k4⟩ | ⟨k1, k2, k3⟩
          · clear hNc hcv hcl0 hSR hC hE
            subst k1
            have hVo := fun W => hVR.out k2 W
            have hVp := fun W => hV1.out k2 W
            rw [← k4] at hVo
            rw [← k3] at hVp
            replace hVo := hide hVo
            replace hVp := hide hVp
            replace k4 := hide k4
            replace k3 := hide k3
            replace k2 := hide k2
            clear hVR hV1
            go_upto_region 22 with fail
            refine wp_region_tree (fun wx => W15.grownBy wx none) [1, 0, 1, 0, 2, 2] (.bl 0 (.bl 2 (.ef 1 (.ef 3 (.bl 4 (.bl 5 .done)))))) (by kernel_rfl) (by kernel_rfl) (gr_drew hgc) ?_
            obtain ⟨w20, hw20⟩ : ∃ x, x = (w19).drew := ⟨_, rfl⟩
            rw [← hw20]
            have hgw20 : (w19).grownBy w20 none := by rw [hw20]; exact gr_drew (World.grownBy.refl _ _)
            clear hw20
            refine tree_b rfl rfl rfl rfl _ rfl (by simp) (fun K hK => ?_)
            apply Exists.intro
            refine ⟨fun wq hq K' hK' => ?_, ?_⟩
            · obtain ⟨d0, d1, d2, d3⟩ := hBC.out wq hq
              go_wp2_with fail
              exact hK'
            go_simp
            refine hK _ ?_
            clear hK K
            refine tree_b rfl rfl rfl rfl _ rfl (by simp) (fun K hK => ?_)
            apply Exists.intro
            refine ⟨fun wq hq K' hK' => ?_, ?_⟩
            · obtain ⟨d0, d1, d2, d3⟩ := hBC.out wq hq
              go_wp2_with fail
              exact hK'
            go_simp
            refine hK _ ?_
            clear hK K
            refine tree_e rfl rfl (fun K hK => ?_)
            obtain ⟨d0, d1, d2, d3⟩ := hBC.out w20 (gr_trans hgc hgw20)
            go_wp2_with fail
            refine (hVo.out w20 d2 d3).mono ?_
            rintro e w6 ⟨O, co, rfl, ho, h6⟩
            have hl6 := ho.sl.mono (Nat.zero_le _)
            clear d0 d1 d2 d3 ho
            go_wp2_with fail
            try go_simp
            refine hK _ _ ((gr_trans hgc (gr_trans hgw20 h6))) ?_
            clear hK K
            refine tree_e0 (by kernel_rfl) rfl rfl (fun K hK => ?_)
            obtain ⟨d0, d1, d2, d3⟩ := hBC.out w6 (gr_trans hgc (gr_trans hgw20 h6))
            go_wp2_with fail
            refine (hVp.out w6 d2 d3).mono ?_
            rintro e w7 ⟨rfl, h7⟩
            clear d0 d1 d2 d3
            go_wp2_with fail
            try go_simp
            refine hK _ _ trivial ?_
            clear hK K
            refine tree_p rfl rfl rfl rfl _ rfl (by simp) (fun K hK => ?_)
            apply Exists.intro
            refine ⟨fun wq K' hK' => ?_, ?_⟩
            · go_wp2_with fail
              exact hK'
            go_simp
            refine hK _ ?_
            clear hK K
            refine tree_p rfl rfl rfl rfl _ rfl (by simp) (fun K hK => ?_)
            apply Exists.intro
            refine ⟨fun wq K' hK' => ?_, ?_⟩
            · go_wp2_with fail
              exact hK'
            go_simp
            refine hK _ ?_
            clear hK K
            refine tree_done ?_
            go_wp2_with fail
            go_meet
            exact ⟨O, co, rfl, rfl, hl6.pure h7, gr_trans hgw20 (gr_trans h6 h7)⟩
          · clear hNc hcv hcl0 hSR hC hE hVR hV1
            subst k1 k2 k3
            go_wp2_with fail
            go_meet
            exact ⟨none, 0, rfl, rfl, (Own.nil _ 0 3).sl, World.grownBy.refl _ _⟩
        case rest =>
          as_aux_lemma =>
          obtain ⟨O26, k26, rfl, rfl, hl26, hg26⟩ := hcut
          clear hVR hV1
          have hgz := gr_trans hgc hg26
          generalize wc = w21 at *
          obtain ⟨f1, f2, f3, f4, f5, f6, f7, f8, f9⟩ := hC.out w21 hgz
          have f10 := hE.out w21 hg26
          have hG : ∀ wx, w21.grownBy wx none → Box3 wx x9 L7 ∧ Box3 wx (x9 + 1) H7 ∧ Box3 wx x21 L7 ∧ Box3 wx (x21 + 1) H7 ∧ Box3 wx x14 NR ∧ Box3 wx x25 NR := fun wx h => ⟨f1.gr h (by simp), f2.gr h (by simp), f3.gr h (by simp), f4.gr h (by simp), f5.gr h (by simp), f10.gr h (by simp)⟩
          replace hG := hide hG
          clear f1 f2 f3 f4 f5 f10 hC hE hcl0 hNc hcv
          obtain ⟨⟨⟨a0, -⟩, ⟨a1, -⟩, ⟨a2, -⟩⟩, ⟨⟨a3, -⟩, ⟨a4, -⟩, ⟨a5, -⟩⟩, ⟨⟨b0, -⟩, ⟨b1, -⟩, ⟨b2, -⟩⟩, ⟨⟨b3, -⟩, ⟨b4, -⟩, ⟨b5, -⟩⟩, ⟨⟨a6, -⟩, ⟨a7, -⟩, ⟨a8, -⟩⟩, ⟨⟨b6, -⟩, ⟨b7, -⟩, ⟨b8, -⟩⟩⟩ := hG.out w21 (World.grownBy.refl _ _)
          go_wp2_with fail
          refine (sameSides_any O1 k1 l2 O20 k20 w21 f6 f7).mono ?_
          rintro e w22 ⟨rfl, g22⟩
          clear a0 a1 a2 a3 a4 a5 a6 a7 a8 b0 b1 b2 b3 b4 b5 b6 b7 b8
          obtain ⟨⟨⟨a0, -⟩, ⟨a1, -⟩, ⟨a2, -⟩⟩, ⟨⟨a3, -⟩, ⟨a4, -⟩, ⟨a5, -⟩⟩, ⟨⟨b0, -⟩, ⟨b1, -⟩, ⟨b2, -⟩⟩, ⟨⟨b3, -⟩, ⟨b4, -⟩, ⟨b5, -⟩⟩, ⟨⟨a6, -⟩, ⟨a7, -⟩, ⟨a8, -⟩⟩, ⟨⟨b6, -⟩, ⟨b7, -⟩, ⟨b8, -⟩⟩⟩ := hG.out w22 g22
          obtain ⟨m0, m1, m2, m3⟩ := hBC.out w22 (gr_trans hgz g22)
          go_wp2_with fail
          refine (hSR.out _ m3).mono ?_
          rintro e w23 ⟨O2, co2, rfl, ho2, g23⟩
          have hs23 := (f8.pure g22).pure g23
          have hm23 := ho2.toN.sl.mono (Nat.zero_le _)
          clear a0 a1 a2 a3 a4 a5 a6 a7 a8 b0 b1 b2 b3 b4 b5 b6 b7 b8 m0 m1 m2 m3 ho2
          replace g23 := gr_trans g22 g23
          obtain ⟨⟨⟨a0, -⟩, ⟨a1, -⟩, ⟨a2, -⟩⟩, ⟨⟨a3, -⟩, ⟨a4, -⟩, ⟨a5, -⟩⟩, ⟨⟨b0, -⟩, ⟨b1, -⟩, ⟨b2, -⟩⟩, ⟨⟨b3, -⟩, ⟨b4, -⟩, ⟨b5, -⟩⟩, ⟨⟨a6, -⟩, ⟨a7, -⟩, ⟨a8, -⟩⟩, ⟨⟨b6, -⟩, ⟨b7, -⟩, ⟨b8, -⟩⟩⟩ := hG.out w23 g23
          go_wp2_with fail
          refine (eqRows_any O12 k12 _ O2 co2 w23 hs23 hm23).mono ?_
          rintro e w24 ⟨rfl, g24⟩
          replace g24 := gr_trans g23 g24
          have hq := equalInts_any O18 O26 k18 k26 vF vF w24 (f9.pure g24) (hl26.pure g24)
          rw [eqB_refl] at hq
          replace hq := hide hq
          clear a0 a1 a2 a3 a4 a5 a6 a7 a8 b0 b1 b2 b3 b4 b5 b6 b7 b8
          obtain ⟨⟨⟨a0, -⟩, ⟨a1, -⟩, ⟨a2, -⟩⟩, ⟨⟨a3, -⟩, ⟨a4, -⟩, ⟨a5, -⟩⟩, ⟨⟨b0, -⟩, ⟨b1, -⟩, ⟨b2, -⟩⟩, ⟨⟨b3, -⟩, ⟨b4, -⟩, ⟨b5, -⟩⟩, ⟨⟨a6, -⟩, ⟨a7, -⟩, ⟨a8, -⟩⟩, ⟨⟨b6, -⟩, ⟨b7, -⟩, ⟨b8, -⟩⟩⟩ := hG.out w24 g24
          go_wp2_with fail
          refine hq.out.mono ?_
          rintro e w25 ⟨rfl, g25⟩
          clear a0 a1 a2 a3 a4 a5 a6 a7 a8 b0 b1 b2 b3 b4 b5 b6 b7 b8 hq
          obtain ⟨⟨⟨a0, -⟩, ⟨a1, -⟩, ⟨a2, -⟩⟩, ⟨⟨a3, -⟩, ⟨a4, -⟩, ⟨a5, -⟩⟩, ⟨⟨b0, -⟩, ⟨b1, -⟩, ⟨b2, -⟩⟩, ⟨⟨b3, -⟩, ⟨b4, -⟩, ⟨b5, -⟩⟩, ⟨⟨a6, -⟩, ⟨a7, -⟩, ⟨a8, -⟩⟩, ⟨⟨b6, -⟩, ⟨b7, -⟩, ⟨b8, -⟩⟩⟩ := hG.out w25 (gr_trans g24 g25)
          go_wp2_with fail
          refine (meshed_any _).mono ?_
          rintro e w26 ⟨rfl, g26⟩
          clear a0 a1 a2 a3 a4 a5 a6 a7 a8 b0 b1 b2 b3 b4 b5 b6 b7 b8
          go_wp2_with fail
          go_ret
          exact ⟨rfl, gr_trans hg0 (gr_trans gM (gr_trans hgz (gr_trans g24 (gr_trans g25 g26))))⟩
  · as_aux_lemma =>
    have hO := fun W h1 h2 => openBad_any A1 c1 vs B1 d1 fs W h1 h2 hM
    have hX := fun W h1 h2 => boxBad_any A1 c1 vs B1 d1 fs W h1 h2 hM
    have hS := fun W h1 h2 => shellsBad_any A1 c1 vs B1 d1 fs W h1 h2 hM
    have hN := fun W h1 h2 => normalBad_any A1 c1 vs B1 d1 fs face W h1 h2 hM
    have hV := fun W h1 h2 => volumeBad_any A1 c1 vs B1 d1 fs W h1 h2 hM
    have hVs := fun W h1 h2 => volumesBad_any A1 c1 vs B1 d1 fs W h1 h2 hM
    generalize meshF ⟨vs, fs⟩ = F at *
    have hb : (F != 0) = true := by simpa using hM
    replace hO := hide hO
    replace hX := hide hX
    replace hS := hide hS
    replace hN := hide hN
    replace hV := hide hV
    replace hVs := hide hVs
    obtain ⟨e0, e1, e2, e3⟩ := hB.out w4 g4
    go_wp2_with fail
    refine (hO.out _ e2 e3).mono ?_
    rintro e w5 ⟨rfl, g5⟩
    replace g5 := gr_trans g4 g5
    clear e0 e1 e2 e3 hO g4
    obtain ⟨e0, e1, e2, e3⟩ := hB.out w5 g5
    go_wp2_with fail
    refine (hX.out _ e2 e3).mono ?_
    rintro e w6 ⟨rfl, g6⟩
    obtain ⟨W7, hW7⟩ : ∃ x, x = (w6.alloc (.cells #[.int .i64 0, .int .i64 0, .int .i64 0] 38)).alloc (.cells #[.int .i64 0, .int .i64 0, .int .i64 0] 38) := ⟨_, rfl⟩
    have hal7 : w6.grownBy W7 none := by rw [hW7]; exact (by repeat (first | exact World.grownBy.refl _ _ | assumption | refine gr_alloc ?_ _ | (apply gr_tail; assumption) | refine gr_drewN ?_ _ | refine gr_drew ?_))
    have u9 : Box3 W7 w6.heap.size ⟨0, 0, 0⟩ := by rw [hW7]; exact ⟨⟨by go_simp, by go_simp⟩, ⟨by go_simp, by go_simp⟩, ⟨by go_simp, by go_simp⟩⟩
    have u10 : Box3 W7 (w6.heap.size + 1) ⟨0, 0, 0⟩ := by rw [hW7]; exact ⟨⟨by go_simp, by go_simp⟩, ⟨by go_simp, by go_simp⟩, ⟨by go_simp, by go_simp⟩⟩
    have g7 := gr_trans (gr_trans g5 g6) hal7
    clear e0 e1 e2 e3 hX g5 g6 hal7
    go_upto_region 7 with fail
    rw [← hW7]
    clear hW7
    generalize w6.heap.size = x9 at *
    obtain ⟨e0, e1, e2, e3⟩ := hB.out W7 g7
    go_wp2_with fail
    refine (hS.out _ e2 e3).mono ?_
    rintro e w8 ⟨rfl, g8⟩
    replace u9 := u9.gr g8 (by simp)
    replace u10 := u10.gr g8 (by simp)
    replace g8 := gr_trans g7 g8
    clear e0 e1 e2 e3 hS g7
    obtain ⟨e0, e1, e2, e3⟩ := hB.out w8 g8
    go_wp2_with fail
    refine (hN.out _ e2 e3).mono ?_
    rintro e w9 ⟨rfl, g9⟩
    have hal9 := gr_alloc (World.grownBy.refl w9 none) (.cells #[.int .i64 0, .int .i64 0, .int .i64 0] 38)
    have u14 : Box3 (w9.alloc (.cells #[.int .i64 0, .int .i64 0, .int .i64 0] 38)) w9.heap.size ⟨0, 0, 0⟩ := ⟨⟨by go_simp, by go_simp⟩, ⟨by go_simp, by go_simp⟩, ⟨by go_simp, by go_simp⟩⟩
    replace u9 := (u9.gr g9 (by simp)).gr hal9 (by simp)
    replace u10 := (u10.gr g9 (by simp)).gr hal9 (by simp)
    have g10 := gr_trans (gr_trans g8 g9) hal9
    clear e0 e1 e2 e3 hN g8 g9 hal9
    go_upto_region 9 with fail
    generalize w9.heap.size = x14 at *
    generalize w9.alloc (.cells #[.int .i64 0, .int .i64 0, .int .i64 0] 38) = w10 at *
    obtain ⟨e0, e1, e2, e3⟩ := hB.out w10 g10
    go_wp2_with fail
    refine (hV.out _ e2 e3).mono ?_
    rintro e w11 ⟨rfl, g11⟩
    replace u9 := u9.gr g11 (by simp)
    replace u10 := u10.gr g11 (by simp)
    replace u14 := u14.gr g11 (by simp)
    replace g11 := gr_trans g10 g11
    clear e0 e1 e2 e3 hV g10
    obtain ⟨e0, e1, e2, e3⟩ := hB.out w11 g11
    go_wp2_with fail
    refine (hVs.out _ e2 e3).mono ?_
    rintro e w12 ⟨rfl, g12⟩
    obtain ⟨⟨k0, -⟩, ⟨k1, -⟩, ⟨k2, -⟩⟩ := u9.gr g12 (by simp)
    obtain ⟨⟨k3, -⟩, ⟨k4, -⟩, ⟨k5, -⟩⟩ := u10.gr g12 (by simp)
    obtain ⟨⟨k6, -⟩, ⟨k7, -⟩, ⟨k8, -⟩⟩ := u14.gr g12 (by simp)
    replace g12 := gr_trans g11 g12
    clear e0 e1 e2 e3 hVs g11 u9 u10 u14
    go_wp2_with fail
    refine (meshed_any _).mono ?_
    rintro e w13 ⟨rfl, h1⟩
    go_wp2_with fail
    go_ret
    exact ⟨rfl, gr_trans hg0 (gr_trans g12 h1)⟩

end Go.Proofs.YtkcchcnljanloaaGreat
