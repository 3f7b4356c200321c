/- Contracts of functions that this seat's laws reach, each: what one call returns and what it leaves in memory; no condition beyond each theorem's own hypotheses. -/
import Derived.Test.YtbgailgclflaeaaGreatDoorMReady
import Derived.Test.YtbgailgclflaeaaGreatDoorMMeshCA
import Derived.Test.YtbgailgclflaeaaGreatDoorMMeshVol
import Derived.Test.YtbgailgclflaeaaGreatDoorMWeldData2
import Derived.Deep.DeepCutAuto
set_option linter.unusedVariables false
set_option linter.unusedSimpArgs false
namespace Go.Proofs.YtbgailgclflaeaaGreatDoor
open Go Go.RowKit Go.Bl

set_option maxHeartbeats 4000000 in
set_option maxRecDepth 100000 in
theorem welded_law (A : Option Addr) (n c : Nat) (L : List Int) (w : World) (hL : Sl w 0 A L) (hn : L.length = n) :
    Calls Tryz.prog 6 #[.slice A n c] w fun e w' => e = .returned (.bool true) ∧ w.grownBy w' none := by
  have hs0 := strm_new (c := c) 25 hL hn
  have hg0 := gr_alloc (World.grownBy.refl w none) (.cells #[.slice A n c, .int .i64 0] 25)
  go_enter Tryz.func6, Tryz.ntmps6
  go_wp2_with fail
  refine (rightMesh_any _ 0 _ hs0 (by omega)).mono ?_
  rintro e w1 ⟨A1, c1, vs, B1, d1, fs, rfl, hl, hf, ho1, hM, hvl, hfl⟩
  replace hg0 := gr_new hg0 ho1.1 (Nat.le_refl _)
  replace hl := hl.mono (Nat.zero_le _)
  replace hf := hf.mono (Nat.zero_le _)
  clear ho1 hs0
  obtain ⟨hE1, hE2, hR, hT, -, hFl⟩ := weld_once hM
  have hWd := fun w hl hf => welded_any A1 c1 vs B1 d1 fs w hl hf
  have hal := gr_alloc (World.grownBy.refl w1 none) (.cells #[.slice A1 vs.length c1, .slice B1 fs.length d1] 29)
  replace hWd := hWd _ (hl.pure hal) (hf.pure hal)
  unfold SMeshE at hWd
  rw [hR] at hWd
  by_cases hz : weldE vs fs = 0
  · rw [hz] at hE1 hWd
    replace hE1 := hE1.symm
    rw [show okM (weldM vs fs) = weldM vs fs by unfold okM; rw [if_pos hE1]] at hWd
    clear hR hz hE2 hM
    generalize weldM vs fs = X at *
    obtain ⟨V, F⟩ := X
    simp only at hT hFl hWd
    have hFl1 : F.length ≤ 100 := by omega
    obtain ⟨a1, a2⟩ := weld_again hT hE1
    obtain ⟨-, xv, xf, l1, l2, l3, l4, l5, l6, l7⟩ := weld_loose hT hE1 (by omega)
    have hV2 : volR xv xf = volR V F ∧ closE xf = closE F := by
      unfold volR closE
      by_cases hc : openS F = []
      · rw [if_pos hc, if_pos hc, if_pos (l7.2 hc), if_pos (l7.2 hc)]; exact ⟨l6, rfl⟩
      · rw [if_neg hc, if_neg hc, if_neg (fun h => hc (l7.1 h)), if_neg (fun h => hc (l7.1 h))]; exact ⟨rfl, rfl⟩
    have hW3 := fun A c B d w hl hf => welded_any A c V B d F w hl hf
    have hW4 := fun A c B d w hl hf => welded_any A c (looseV V F) B d (looseF F.length) w hl hf
    unfold SMeshE at hW3 hW4
    rw [a1, a2] at hW3
    rw [l1, l2] at hW4
    have hVa := fun A c B d w hl hf => meshVolume_any A c V B d F w hl hf hE1
    have hVb := fun A c B d w hl hf => meshVolume_any A c xv B d xf w hl hf l3
    rw [hV2.1, hV2.2] at hVb
    have hSm := fun A c B d A2 c2 B2 d2 w => sameMesh_any A c V B d F A2 c2 B2 d2 w
    have hin := hide hT.fin
    generalize volR V F = vol at *
    generalize closE F = clo at *
    have hVl : V.length ≤ 1000 := (meshOk.1 hE1).vl
    replace l4 := hide l4
    replace l5 := hide l5
    clear hFl
    clear a1 a2 l1 l2 l3 l6 l7 hV2 hT hE1
    replace hW3 := hide hW3
    replace hW4 := hide hW4
    replace hVa := hide hVa
    replace hVb := hide hVb
    replace hSm := hide hSm
    replace hWd := hide hWd
    simp only at hW3 hW4
    go_wp2_with fail
    refine hWd.out.mono ?_
    rintro e w2 ⟨A2, c2, B2, d2, rfl, sv, sf, g2⟩
    replace sv := sv.mono (Nat.zero_le _)
    replace sf := sf.mono (Nat.zero_le _)
    replace hg0 := gr_trans hg0 (gr_trans hal g2)
    clear hWd hal g2 hl hf
    obtain ⟨WA, hWA⟩ : ∃ x, x = w2.alloc (.cells #[.slice A2 V.length c2, .slice B2 F.length d2] 29) := ⟨_, rfl⟩
    have hgA : w2.grownBy WA none := by rw [hWA]; exact gr_alloc (World.grownBy.refl _ _) _
    have hsA : WA.heap.size = w2.heap.size + 1 := by rw [hWA]; simp
    have hB : ∀ wx, WA.grownBy wx none → wx.cell? ⟨w2.heap.size, 0, none⟩ = some (.slice A2 V.length c2) ∧ wx.cell? ⟨w2.heap.size, 1, none⟩ = some (.slice B2 F.length d2) ∧ Sl wx 0 A2 V ∧ Sl wx 0 B2 F := fun wx h => ⟨h.k (by rw [hWA]; go_simp), h.k (by rw [hWA]; go_simp), (sv.pure hgA).pure h, (sf.pure hgA).pure h⟩
    obtain ⟨WB, hWB⟩ : ∃ x, x = WA.alloc (.cells [.slice none 0 0, .slice none 0 0].toArray 29) := ⟨_, rfl⟩
    have hO0 : Box WB WA.heap.size 29 [.slice none 0 0, .slice none 0 0] := by rw [hWB]; exact Box.new _ _ _
    have hgB : WA.grownBy WB none := by rw [hWB]; exact gr_alloc (World.grownBy.refl _ _) _
    have hsB : WB.heap.size = WA.heap.size + 1 := by rw [hWB]; simp
    have hWw := gr_trans hg0 hgA
    replace hB := hide hB
    go_upto_region 8 with fail
    rw [← hWA, show WA.alloc (.cells #[.slice none 0 0, .slice none 0 0] 29) = WB from hWB.symm, ← hsA]
    clear hWA hWB sv sf hgA hg0
    generalize w2.heap.size = g5 at *
    obtain ⟨g7, hg7⟩ : ∃ x, x = WA.heap.size := ⟨_, rfl⟩
    rw [← hg7] at hO0 hsB ⊢
    obtain ⟨lo, hlo⟩ : ∃ x, x = WB.heap.size := ⟨_, rfl⟩
    have hlo7 : lo = g7 + 1 := by omega
    have h57 : g5 < g7 := by omega
    have hAlo : WA.heap.size ≤ g7 := by omega
    replace hlo7 := hide hlo7
    replace hsA := hide hsA
    replace hsB := hide hsB
    replace hg7 := hide hg7
    have hlB : lo ≤ WB.heap.size := by omega
    replace hlo := hide hlo
    go_loopw [40] (fun i wr => ∃ (k : Nat) (A3 : Option Addr) (c3 : Nat) (B3 : Option Addr) (d3 : Nat), k ≤ F.length ∧ i = .int .i64 k ∧ Box wr g7 29 [.slice A3 (3 * k : Nat) c3, .slice B3 k d3] ∧ Own wr lo 64 A3 c3 (looseV V (F.take k)) ∧ Own wr lo 32 B3 d3 (looseF k) ∧ lo ≤ wr.heap.size ∧ WA.grownBy wr none) (fun i _ => F.length - (intOf i).toNat)
    case atStart => exact ⟨0, none, 0, none, 0, Nat.zero_le _, rfl, hO0, Own.nil _ _ _, Own.nil _ _ _, hlB, hgB⟩
    case round =>
      obtain ⟨k, A3, c3, B3, d3, hk, rfl, hO, hV3, hF3, hlw, hg⟩ := hrel
      clear hO0 hgB hlB
      by_cases hlt : k < F.length
      · have HS := hide (looseV_snoc V hlt)
        have hfin := hin.out _ (List.getElem_mem hlt)
        obtain ⟨x0, x1, sv, sf⟩ := hB.out wr hg
        obtain ⟨g, o, cx, rfl, hb0, hb1, rfl, hc⟩ := (sf).at_ (by decide) hlt
        have v0 : wr.cell? ⟨g, o + k * 3, none⟩ = some (.int .i64 F[k].a) := hc 0 _ rfl
        have v1 : wr.cell? ⟨g, o + k * 3 + 1, none⟩ = some (.int .i64 F[k].b) := hc 1 _ rfl
        have v2 : wr.cell? ⟨g, o + k * 3 + 2, none⟩ = some (.int .i64 F[k].c) := hc 2 _ rfl
        clear hc
        generalize F[k] = f at *
        have hlen3 : Hid ((looseV V (F.take k)).length = 3 * k) := by rw [Hid, looseV_len, List.length_take, Nat.min_eq_left hk]
        generalize looseV V (F.take k) = LV at *
        obtain ⟨ia, ib, ic, ha, hb, hcc, rfl, ea, eb, ec⟩ := inF_at hfin
        have hpl : pl3 V ⟨ia, ib, ic⟩ = [V[ia], V[ib], V[ic]] := by unfold pl3; simp only at ea eb ec; simp only [ea, eb, ec]
        rw [hpl] at HS
        clear ea eb ec hpl hfin
        obtain ⟨gv, ov, rfl, hc0, hc1, hcell⟩ := sv.v3 (by omega)
        obtain ⟨p0, p1, p2⟩ := hcell ia ha
        obtain ⟨q0, q1, q2⟩ := hcell ib hb
        obtain ⟨r0, r1, r2⟩ := hcell ic hcc
        clear hcell
        generalize hva : V[ia] = va at *
        generalize hvb : V[ib] = vb at *
        generalize hvc : V[ic] = vc at *
        clear hva hvb hvc
        simp only at v0 v1 v2
        obtain ⟨y0, z0⟩ := hO.c 0 rfl
        obtain ⟨y1, z1⟩ := hO.c 1 rfl
        have h7w : g7 < wr.heap.size := hO.lt
        have h5w : g5 < wr.heap.size := by omega
        obtain ⟨wn, hwn⟩ : ∃ x, x = wr.alloc (.cells #[.int .i64 ia, .int .i64 ib, .int .i64 ic] 32) := ⟨_, rfl⟩
        have hgn : wr.grownBy wn none := by rw [hwn]; exact gr_alloc (World.grownBy.refl _ _) _
        have k0 : wn.cell? ⟨wr.heap.size, 0, none⟩ = some (.int .i64 ia) := by rw [hwn]; go_simp
        have k1 : wn.cell? ⟨wr.heap.size, 1, none⟩ = some (.int .i64 ib) := by rw [hwn]; go_simp
        have k2 : wn.cell? ⟨wr.heap.size, 2, none⟩ = some (.int .i64 ic) := by rw [hwn]; go_simp
        have hBx : ∀ wx, wn.grownBy wx none → wx.cell? ⟨g7, 0, none⟩ = some (.slice A3 (3 * k : Nat) c3) ∧ wx.cell? ⟨g5, 0, none⟩ = some (.slice (some ⟨gv, ov, none⟩) V.length c2) ∧ wx.cell? ⟨wr.heap.size, 0, none⟩ = some (.int .i64 ia) ∧ wx.cell? ⟨wr.heap.size, 1, none⟩ = some (.int .i64 ib) ∧ wx.cell? ⟨wr.heap.size, 2, none⟩ = some (.int .i64 ic) ∧ (wx.cell? ⟨gv, ov + ia * 3, none⟩ = some (.int .i64 va.x) ∧ wx.cell? ⟨gv, ov + ia * 3 + 1, none⟩ = some (.int .i64 va.y) ∧ wx.cell? ⟨gv, ov + ia * 3 + 2, none⟩ = some (.int .i64 va.z)) ∧ (wx.cell? ⟨gv, ov + ib * 3, none⟩ = some (.int .i64 vb.x) ∧ wx.cell? ⟨gv, ov + ib * 3 + 1, none⟩ = some (.int .i64 vb.y) ∧ wx.cell? ⟨gv, ov + ib * 3 + 2, none⟩ = some (.int .i64 vb.z)) ∧ wx.cell? ⟨gv, ov + ic * 3, none⟩ = some (.int .i64 vc.x) ∧ wx.cell? ⟨gv, ov + ic * 3 + 1, none⟩ = some (.int .i64 vc.y) ∧ wx.cell? ⟨gv, ov + ic * 3 + 2, none⟩ = some (.int .i64 vc.z) := fun wx h => ⟨h.k (hgn.k y0), h.k (hgn.k x0), h.k k0, h.k k1, h.k k2, ⟨h.k (hgn.k p0), h.k (hgn.k p1), h.k (hgn.k p2)⟩, ⟨h.k (hgn.k q0), h.k (hgn.k q1), h.k (hgn.k q2)⟩, h.k (hgn.k r0), h.k (hgn.k r1), h.k (hgn.k r2)⟩
        clear p0 p1 p2 q0 q1 q2 r0 r1 r2 z0 z1 y1 k0 k1 k2 x1 sv sf
        replace hBx := hide hBx
        replace hwn := hide hwn.symm
        replace hO := hO.pure hgn
        replace hV3 := hV3.pure hgn
        replace hF3 := hF3.pure hgn
        replace hg := gr_trans hg hgn
        have hlwn : lo ≤ wn.heap.size := Nat.le_trans hlw hgn.size
        go_upto_region 11 with fail
        rw [hwn.out]
        clear hwn v0 v1 v2 x0 y0 h7w h5w
        refine wp_region_tree (fun wx => wn.grownBy wx none) [2, 1, 2, 1, 2, 1, 2, 1, 2, 1, 2, 1, 2, 1, 2, 1, 2, 1, 2, 1, 0, 0, 2, 0] (.bl 0 (.bl 1 (.bl 2 (.bl 3 (.bl 4 (.bl 5 (.bl 6 (.bl 7 (.bl 8 (.bl 9 (.bl 10 (.bl 11 (.bl 12 (.bl 13 (.bl 14 (.bl 15 (.bl 16 (.bl 17 (.bl 18 (.bl 19 (.ef 20 (.ef 21 (.bl 22 (.ef 23 .done)))))))))))))))))))))))) (by kernel_rfl) (by kernel_rfl) (gr_drew (World.grownBy.refl _ _)) ?_
        obtain ⟨wd, hwd⟩ : ∃ x, x = (wn).drew := ⟨_, rfl⟩
        rw [← hwd]
        have hgwd : (wn).grownBy wd none := by rw [hwd]; exact gr_drew (World.grownBy.refl _ _)
        clear hwd
        refine tree_p rfl rfl rfl rfl _ rfl (by simp) (fun K hK => ?_)
        apply Exists.intro
        refine ⟨fun wq K' hK' => ?_, ?_⟩
        · go_wp2_with fail
          exact hK'
        go_simp
        refine hK _ ?_
        clear hK K
        refine tree_b rfl rfl rfl rfl _ rfl (by simp) (fun K hK => ?_)
        apply Exists.intro
        refine ⟨fun wq hq K' hK' => ?_, ?_⟩
        · obtain ⟨d0, d1, d2, d3, d4, ⟨p0, p1, p2⟩, ⟨q0, q1, q2⟩, r0, r1, r2⟩ := hBx.out wq hq
          go_wp2_with fail
          exact hK'
        go_simp
        refine hK _ ?_
        clear hK K
        refine tree_p rfl rfl rfl rfl _ rfl (by simp) (fun K hK => ?_)
        apply Exists.intro
        refine ⟨fun wq K' hK' => ?_, ?_⟩
        · go_wp2_with fail
          exact hK'
        go_simp
        refine hK _ ?_
        clear hK K
        refine tree_b rfl rfl rfl rfl _ rfl (by simp) (fun K hK => ?_)
        apply Exists.intro
        refine ⟨fun wq hq K' hK' => ?_, ?_⟩
        · obtain ⟨d0, d1, d2, d3, d4, ⟨p0, p1, p2⟩, ⟨q0, q1, q2⟩, r0, r1, r2⟩ := hBx.out wq hq
          go_wp2_with fail
          exact hK'
        go_simp
        refine hK _ ?_
        clear hK K
        refine tree_p rfl rfl rfl rfl _ rfl (by simp) (fun K hK => ?_)
        apply Exists.intro
        refine ⟨fun wq K' hK' => ?_, ?_⟩
        · go_wp2_with fail
          exact hK'
        go_simp
        refine hK _ ?_
        clear hK K
        refine tree_b rfl rfl rfl rfl _ rfl (by simp) (fun K hK => ?_)
        apply Exists.intro
        refine ⟨fun wq hq K' hK' => ?_, ?_⟩
        · obtain ⟨d0, d1, d2, d3, d4, ⟨p0, p1, p2⟩, ⟨q0, q1, q2⟩, r0, r1, r2⟩ := hBx.out wq hq
          go_wp2_with fail
          exact hK'
        go_simp
        refine hK _ ?_
        clear hK K
        refine tree_p rfl rfl rfl rfl _ rfl (by simp) (fun K hK => ?_)
        apply Exists.intro
        refine ⟨fun wq K' hK' => ?_, ?_⟩
        · go_wp2_with fail
          exact hK'
        go_simp
        refine hK _ ?_
        clear hK K
        refine tree_b rfl rfl rfl rfl _ rfl (by simp) (fun K hK => ?_)
        apply Exists.intro
        refine ⟨fun wq hq K' hK' => ?_, ?_⟩
        · obtain ⟨d0, d1, d2, d3, d4, ⟨p0, p1, p2⟩, ⟨q0, q1, q2⟩, r0, r1, r2⟩ := hBx.out wq hq
          go_wp2_with fail
          exact hK'
        go_simp
        refine hK _ ?_
        clear hK K
        refine tree_p rfl rfl rfl rfl _ rfl (by simp) (fun K hK => ?_)
        apply Exists.intro
        refine ⟨fun wq K' hK' => ?_, ?_⟩
        · go_wp2_with fail
          exact hK'
        go_simp
        refine hK _ ?_
        clear hK K
        refine tree_b rfl rfl rfl rfl _ rfl (by simp) (fun K hK => ?_)
        apply Exists.intro
        refine ⟨fun wq hq K' hK' => ?_, ?_⟩
        · obtain ⟨d0, d1, d2, d3, d4, ⟨p0, p1, p2⟩, ⟨q0, q1, q2⟩, r0, r1, r2⟩ := hBx.out wq hq
          go_wp2_with fail
          exact hK'
        go_simp
        refine hK _ ?_
        clear hK K
        refine tree_p rfl rfl rfl rfl _ rfl (by simp) (fun K hK => ?_)
        apply Exists.intro
        refine ⟨fun wq K' hK' => ?_, ?_⟩
        · go_wp2_with fail
          exact hK'
        go_simp
        refine hK _ ?_
        clear hK K
        refine tree_b rfl rfl rfl rfl _ rfl (by simp) (fun K hK => ?_)
        apply Exists.intro
        refine ⟨fun wq hq K' hK' => ?_, ?_⟩
        · obtain ⟨d0, d1, d2, d3, d4, ⟨p0, p1, p2⟩, ⟨q0, q1, q2⟩, r0, r1, r2⟩ := hBx.out wq hq
          go_wp2_with fail
          exact hK'
        go_simp
        refine hK _ ?_
        clear hK K
        refine tree_p rfl rfl rfl rfl _ rfl (by simp) (fun K hK => ?_)
        apply Exists.intro
        refine ⟨fun wq K' hK' => ?_, ?_⟩
        · go_wp2_with fail
          exact hK'
        go_simp
        refine hK _ ?_
        clear hK K
        refine tree_b rfl rfl rfl rfl _ rfl (by simp) (fun K hK => ?_)
        apply Exists.intro
        refine ⟨fun wq hq K' hK' => ?_, ?_⟩
        · obtain ⟨d0, d1, d2, d3, d4, ⟨p0, p1, p2⟩, ⟨q0, q1, q2⟩, r0, r1, r2⟩ := hBx.out wq hq
          go_wp2_with fail
          exact hK'
        go_simp
        refine hK _ ?_
        clear hK K
        refine tree_p rfl rfl rfl rfl _ rfl (by simp) (fun K hK => ?_)
        apply Exists.intro
        refine ⟨fun wq K' hK' => ?_, ?_⟩
        · go_wp2_with fail
          exact hK'
        go_simp
        refine hK _ ?_
        clear hK K
        refine tree_b rfl rfl rfl rfl _ rfl (by simp) (fun K hK => ?_)
        apply Exists.intro
        refine ⟨fun wq hq K' hK' => ?_, ?_⟩
        · obtain ⟨d0, d1, d2, d3, d4, ⟨p0, p1, p2⟩, ⟨q0, q1, q2⟩, r0, r1, r2⟩ := hBx.out wq hq
          go_wp2_with fail
          exact hK'
        go_simp
        refine hK _ ?_
        clear hK K
        refine tree_p rfl rfl rfl rfl _ rfl (by simp) (fun K hK => ?_)
        apply Exists.intro
        refine ⟨fun wq K' hK' => ?_, ?_⟩
        · go_wp2_with fail
          exact hK'
        go_simp
        refine hK _ ?_
        clear hK K
        refine tree_b rfl rfl rfl rfl _ rfl (by simp) (fun K hK => ?_)
        apply Exists.intro
        refine ⟨fun wq hq K' hK' => ?_, ?_⟩
        · obtain ⟨d0, d1, d2, d3, d4, ⟨p0, p1, p2⟩, ⟨q0, q1, q2⟩, r0, r1, r2⟩ := hBx.out wq hq
          go_wp2_with fail
          exact hK'
        go_simp
        refine hK _ ?_
        clear hK K
        refine tree_p rfl rfl rfl rfl _ rfl (by simp) (fun K hK => ?_)
        apply Exists.intro
        refine ⟨fun wq K' hK' => ?_, ?_⟩
        · go_wp2_with fail
          exact hK'
        go_simp
        refine hK _ ?_
        clear hK K
        refine tree_b rfl rfl rfl rfl _ rfl (by simp) (fun K hK => ?_)
        apply Exists.intro
        refine ⟨fun wq hq K' hK' => ?_, ?_⟩
        · obtain ⟨d0, d1, d2, d3, d4, ⟨p0, p1, p2⟩, ⟨q0, q1, q2⟩, r0, r1, r2⟩ := hBx.out wq hq
          go_wp2_with fail
          exact hK'
        go_simp
        refine hK _ ?_
        clear hK K
        refine tree_e rfl rfl (fun K hK => ?_)
        go_wp2_with fail
        try go_simp
        refine hK _ _ (gr_alloc hgwd _) ?_
        clear hK K
        obtain ⟨w20, hw20⟩ : ∃ x, x = (wd).alloc (.cells [.int .i64 va.x, .int .i64 va.y, .int .i64 va.z, .int .i64 vb.x, .int .i64 vb.y, .int .i64 vb.z, .int .i64 vc.x, .int .i64 vc.y, .int .i64 vc.z].toArray 64) := ⟨_, rfl⟩
        have hg20 : (wd).grownBy w20 none := by rw [hw20]; exact gr_alloc (World.grownBy.refl _ _) _
        have hb20 : Box w20 (wd).heap.size 64 [.int .i64 va.x, .int .i64 va.y, .int .i64 va.z, .int .i64 vb.x, .int .i64 vb.y, .int .i64 vb.z, .int .i64 vc.x, .int .i64 vc.y, .int .i64 vc.z] := by rw [hw20]; exact Box.new _ _ _
        rw [← hw20]
        clear hw20
        have hs20 := hb20.sl (l := [va, vb, vc]) (lo := 0) ⟨_, _, rfl, rfl, _, _, rfl, rfl, _, _, rfl, rfl, rfl⟩ (Nat.zero_le _) (by simp [maxLen])
        have hq20 := gr_trans hgwd hg20
        refine tree_e0 (by kernel_rfl) rfl rfl (fun K hK => ?_)
        have hV20 := hV3.pure hq20
        have hO20 := hO.pure hq20
        obtain ⟨i0, hi, hz, hi1, hi2⟩ := info_parts info_v3
        refine wp_pushAt (α := V3) _ (.tmp 48) (.tmp 67) _ rfl lo 64 i0 _ 24 Tryz.underlying26 hi hz hi1 hi2 rfl _ _ _ LV rfl hlen3.out.symm hV20 0 ⟨_, 0, none⟩ 3 3 [va, vb, vc] rfl rfl hs20 ?_ ?_ ?_ ?_
        · rw [hlen3.out]; simp; omega
        · rw [hlen3.out]; simp [maxLen]; omega
        · have := hq20.size; omega
        intro A5 c5 w21 hV21 hG21
        have hO21 := hO20.gr hG21.1 (hO20.ne_own hV20 (by decide))
        rw [show (LV ++ [va, vb, vc]).length = 3 * k + 3 by rw [List.length_append, hlen3.out]; rfl]
        try go_simp
        refine hK _ _ trivial ?_
        clear hK K
        refine tree_p rfl rfl rfl rfl _ rfl (by simp) (fun K hK => ?_)
        apply Exists.intro
        refine ⟨fun wq K' hK' => ?_, ?_⟩
        · go_wp2_with fail
          exact hK'
        go_simp
        refine hK _ ?_
        clear hK K
        refine tree_e0 (by kernel_rfl) rfl rfl (fun K hK => ?_)
        obtain ⟨o0, u0⟩ := hO21.c 0 rfl
        obtain ⟨o1, u1⟩ := hO21.c 1 rfl
        have hO22 := hide (hO21.set_ 0 (.slice A5 (3 * k + 3) c5) (by simp))
        have hV22 := hide (hV21.set_other (i := 0) (.slice A5 (3 * k + 3) c5) (hO21.ne_own hV21 (by decide)))
        have hF21 := (hF3.pure hq20).ne hG21.1 (fun x hx => (hF3.pure hq20).ne_own hV20 (by decide) hx)
        have hF22 := hide (hF21.set_other (i := 0) (.slice A5 (3 * k + 3) c5) (hO21.ne_own hF21 (by decide)))
        have hg21 : WA.grownBy w21 none := gr_row (gr_trans hg hq20) hG21.1 (fun x e => by have := (hV20.blk_lt e).1; have := hlo7.out; omega)
        have hg22 := hide (gr_set hg21 (p := ⟨g7, 0, none⟩) (.inr hAlo) (.slice A5 (3 * k + 3) c5))
        have hl22 : Hid (lo ≤ (w21.setCell ⟨g7, 0, none⟩ (.slice A5 (3 * k + 3) c5)).heap.size) := by
          have := Nat.le_trans hlwn (Nat.le_trans hq20.size hG21.1.size)
          simpa [World.setCell, Hid] using this
        clear hF21 hg21 hG21 hV21
        replace hO21 := hide hO21
        go_wp2_with fail
        try go_simp
        refine hK _ _ trivial ?_
        clear hK K
        refine tree_done ?_
        go_upto_region 12 with fail
        generalize w21.setCell ⟨g7, 0, none⟩ (.slice A5 (3 * k + 3) c5) = wm at *
        have hlm : lo ≤ wm.heap.size := hl22.out
        replace hO22 : Box wm g7 29 [.slice A5 (3 * k + 3) c5, .slice B3 k d3] := hO22.out
        obtain ⟨y0, z0⟩ := hO22.c 0 rfl
        obtain ⟨y1, z1⟩ := hO22.c 1 rfl
        go_wp2_with (at_builtin; obtain ⟨i0, hi, hz, h1, h2⟩ := info_parts info_face; refine wpList_pushAt (α := Fc) _ rfl (.tmp 71) (.tmp 78) _ rfl lo 32 i0 _ 24 Tryz.underlying27 hi hz h1 h2 rfl B3 _ d3 (looseF k) rfl (looseF_len k).symm (by exact hF22.out.pure (by repeat (first | exact World.grownBy.refl _ _ | assumption | refine gr_alloc ?_ _ | (apply gr_tail; assumption) | refine gr_drewN ?_ _ | refine gr_drew ?_))) 0 ⟨_, 0, none⟩ 1 1 [fc3 k] rfl rfl (by exact sl_oneAt _ 0 _ _ (fc3 k) _ (by first | rfl | simp) (Nat.zero_le _) (by simp [fc3]; rfl)) ?c2 ?c3 ?c4 ?_)
        case c2 => rw [looseF_len]; simp; omega
        case c3 => rw [looseF_len]; simp [maxLen]; omega
        case c4 => simp; omega
        intro A9 B9 w9 hF9 hG9
        rw [looseF_len]
        have hgl := gr_alloc (World.grownBy.refl wm none) (.cells #[.int .i64 (3 * k), .int .i64 (3 * k + 1), .int .i64 (3 * k + 2)] 32)
        have hO9 := (hO22.pure hgl).gr hG9.1 (hO22.ne_own hF22.out (by decide))
        have hV9 := (hV22.out.pure hgl).ne hG9.1 (fun x hx => (hV22.out.pure hgl).ne_own (hF22.out.pure hgl) (by decide) hx)
        have hg9 : WA.grownBy w9 none := gr_row (gr_trans hg22.out hgl) hG9.1 (fun x e => by have := (hF22.out.blk_lt e).1; have := hlo7.out; omega)
        have hl9 : lo ≤ (w9.setCell ⟨g7, 1, none⟩ (.slice A9 (k + 1) B9)).heap.size := by
          have := Nat.le_trans hlm (Nat.le_trans hgl.size hG9.1.size)
          simpa [World.setCell] using this
        clear y0 z0 y1 z1
        obtain ⟨y0, z0⟩ := hO9.c 0 rfl
        obtain ⟨y1, z1⟩ := hO9.c 1 rfl
        have hO10 := hide (hO9.set_ 1 (.slice A9 (k + 1) B9) (by simp))
        have hV10 := hide (hV9.set_other (i := 1) (.slice A9 (k + 1) B9) (hO9.ne_own hV9 (by decide)))
        have hF10 := hide (hF9.set_other (i := 1) (.slice A9 (k + 1) B9) (hO9.ne_own hF9 (by decide)))
        have hg10 := hide (gr_set hg9 (p := ⟨g7, 1, none⟩) (.inr hAlo) (.slice A9 (k + 1) B9))
        replace hl9 := hide hl9
        rw [← HS.out, ← looseF_snoc] at *
        clear hO9 hV9 hg9 hF9 hG9 hO22 hV22 hF22 hg22 hl22 hlm
        go_wp2_with fail
        (go_roundw; (case rel => exact ⟨k + 1, A5, c5, A9, B9, by omega, by go_num, hO10.out, hV10.out, hF10.out, hl9.out, hg10.out⟩); (case measure => simp [intOf]; omega))
      · have hkF : k = F.length := by omega
        subst hkF
        rw [List.take_length] at hV3
        have hlV : Hid ((looseV V F).length = 3 * F.length) := looseV_len V F
        have hlF : Hid ((looseF F.length).length = F.length) := looseF_len _
        have hW4' := hW4.out A3 c3 B3 d3
        rw [hlV.out, hlF.out] at hW4'
        obtain ⟨x0, x1, sv, sf⟩ := hB.out wr hg
        obtain ⟨y0, z0⟩ := hO.c 0 rfl
        obtain ⟨y1, z1⟩ := hO.c 1 rfl
        replace hV3 := hV3.sl.mono (Nat.zero_le _)
        replace hF3 := hF3.sl.mono (Nat.zero_le _)
        clear hO hlV hlF hin hW4
        generalize looseV V F = LV at *
        generalize looseF F.length = LF at *
        have hW4'' := hide (hW4' wr hV3 hF3)
        clear hW4' hV3 hF3
        have hWr := gr_trans hWw hg
        go_wp2_with fail
        refine hW4''.out.mono ?_
        rintro e wa ⟨Aa, ca, Ba, da, rfl, xa, xb, ga⟩
        replace xa := xa.mono (Nat.zero_le _)
        replace xb := xb.mono (Nat.zero_le _)
        replace x0 := ga.k x0
        replace x1 := ga.k x1
        replace sv := sv.pure ga
        replace sf := sf.pure ga
        clear hW4''
        rw [l4.out, l5.out] at hVb ⊢
        have hq5 : g5 < wa.heap.size := cell_lt x0
        obtain ⟨WX, hWX⟩ : ∃ x, x = wa.alloc (.cells #[.slice Aa V.length ca, .slice Ba F.length da] 29) := ⟨_, rfl⟩
        have hgX : wa.grownBy WX none := by rw [hWX]; exact gr_alloc (World.grownBy.refl _ _) _
        have hB2 : ∀ wx, WX.grownBy wx none → (wx.cell? ⟨g5, 0, none⟩ = some (.slice A2 V.length c2) ∧ wx.cell? ⟨g5, 1, none⟩ = some (.slice B2 F.length d2)) ∧ (wx.cell? ⟨wa.heap.size, 0, none⟩ = some (.slice Aa V.length ca) ∧ wx.cell? ⟨wa.heap.size, 1, none⟩ = some (.slice Ba F.length da)) ∧ Sl wx 0 A2 V ∧ Sl wx 0 B2 F ∧ Sl wx 0 Aa xv ∧ Sl wx 0 Ba xf := fun wx h => ⟨⟨h.k (hgX.k x0), h.k (hgX.k x1)⟩, ⟨h.k (by rw [hWX]; go_simp), h.k (by rw [hWX]; go_simp)⟩, (sv.pure hgX).pure h, (sf.pure hgX).pure h, (xa.pure hgX).pure h, (xb.pure hgX).pure h⟩
        replace hB2 := hide hB2
        replace hWr := gr_trans hWr (gr_trans ga hgX)
        clear x0 x1 sv sf xa xb y0 y1 z0 z1 hB
        go_upto_region 15 with fail
        rw [← hWX]
        clear hWX hgX ga
        generalize wa.heap.size = g11 at *
        obtain ⟨⟨x0, x1⟩, -, sv, sf, -⟩ := hB2.out WX (World.grownBy.refl _ _)
        have hq5 : g5 < WX.heap.size := cell_lt x0
        go_wp2_with fail
        refine (hW3.out A2 c2 B2 d2 _ sv sf).mono ?_
        rintro e wb ⟨Ab, cb, Bb, db, rfl, xa, xb, gb⟩
        replace xa := xa.mono (Nat.zero_le _)
        replace xb := xb.mono (Nat.zero_le _)
        clear x0 x1 sv sf hW3 hq5
        have hgz := gr_alloc gb (.cells #[.slice Ab V.length cb, .slice Bb F.length db] 29)
        have hga := gr_alloc (World.grownBy.refl wb none) (.cells #[.slice Ab V.length cb, .slice Bb F.length db] 29)
        obtain ⟨⟨x0, x1⟩, ⟨y0, y1⟩, -⟩ := hB2.out wb gb
        have hq5 : g5 < wb.heap.size := cell_lt x0
        have hq11 : g11 < wb.heap.size := cell_lt y0
        obtain ⟨-, -, sv, sf, -⟩ := hB2.out _ hgz
        simp only
        go_wp2_with fail
        refine (hSm.out Ab cb Bb db A2 c2 B2 d2 _ (xa.pure hga) (xb.pure hga) sv sf).mono ?_
        rintro e wc ⟨rfl, gc⟩
        replace gc := gr_trans hgz gc
        clear x0 x1 y0 y1 hq5 hq11 sv sf xa xb hga hgz gb hSm
        obtain ⟨⟨x0, x1⟩, ⟨y0, y1⟩, sv, sf, sx, sy⟩ := hB2.out wc gc
        go_wp2_with fail
        refine (hVa.out A2 c2 B2 d2 _ sv sf).mono ?_
        rintro e wd ⟨rfl, gd⟩
        replace gd := gr_trans gc gd
        clear x0 x1 y0 y1 sv sf sx sy hVa
        obtain ⟨-, ⟨y0, y1⟩, -, -, sx, sy⟩ := hB2.out wd gd
        go_wp2_with fail
        refine (hVb.out Aa ca Ba da _ sx sy).mono ?_
        rintro e we ⟨rfl, ge⟩
        replace ge := gr_trans gd ge
        clear y0 y1 sx sy hVb
        go_wp2_with fail
        refine (ready_any _).mono ?_
        rintro e w9 ⟨rfl, h1⟩
        go_wp2_with fail
        go_ret
        exact ⟨rfl, gr_trans hWr (gr_trans ge h1)⟩
  · have h6 := hE2.resolve_left hz
    rw [h6] at hWd
    clear hz hE1 hE2 hT hFl hR h6 hM hvl hfl
    replace hWd := hide hWd
    go_wp2_with fail
    refine hWd.out.mono ?_
    rintro e w2 ⟨A2, c2, B2, d2, rfl, -, -, g2⟩
    replace hg0 := gr_trans hg0 (gr_trans hal g2)
    go_wp2_with fail
    refine (ready_any _).mono ?_
    rintro e w9 ⟨rfl, h1⟩
    go_wp2_with fail
    go_ret
    exact ⟨rfl, gr_trans (gr_alloc hg0 _) h1⟩

end Go.Proofs.YtbgailgclflaeaaGreatDoor
