/- Contracts of functions that this seat's laws reach, each: what one call returns and what it leaves in memory; no condition beyond each theorem's own hypotheses. -/
import Derived.Test.YtgcpegjggakemaaGreatDoorZqCelAB
import Derived.Test.YtgcpegjggakemaaGreatDoorZqCelY
import Derived.Test.YtgcpegjggakemaaGreatDoorZqCntD
import Derived.Test.YtgcpegjggakemaaGreatDoorZqFilD
import Derived.Test.YtgcpegjggakemaaGreatDoorZqFilO
import Derived.Test.YtgcpegjggakemaaGreatDoorZqHasA
import Derived.Test.YtgcpegjggakemaaGreatDoorZqHasB
import Derived.Test.YtgcpegjggakemaaGreatDoorZqRegGenB
import Derived.Test.YtgcpegjggakemaaGreatDoorZqRegRefC
set_option linter.unusedVariables false
set_option linter.unusedSimpArgs false
namespace Go.Proofs.YtgcpegjggakemaaGreatDoor
open Go Go.RowKit Go.Bl

theorem hasE_or (c : Cel) (p : Pt) : hasE c p = orL [cellsF c, pointsF [p]] := by
  unfold hasE pointsF orL orL orL
  by_cases h : cellsF c = 0 <;> cases hq : farP p <;> simp [h, hq]

set_option maxHeartbeats 8000000 in
set_option maxRecDepth 100000 in
theorem cellsFilled_law (A : Option Addr) (n c : Nat) (L : List Int) (w : World) (hL : Sl w 0 A L) (hn : L.length = n) :
    Calls Tryz.prog 3 #[.slice A n c] w fun e w' => e = .returned (.bool true) ∧ w.grownBy w' none := by
  have hs0 := strm_new (c := c) 25 hL hn
  have hg0 := gr_alloc (World.grownBy.refl w none) (.cells #[.slice A n c, .int .i64 0] 25)
  go_enter Tryz.func3, Tryz.ntmps3
  go_upto_region 2 with fail
  obtain ⟨w1, hw1⟩ : ∃ x, x = w.alloc (.cells #[.slice A n c, .int .i64 0] 25) := ⟨_, rfl⟩
  rw [← hw1] at hs0 hg0 ⊢
  clear hw1
  obtain ⟨b, hb⟩ : ∃ q, q = w.heap.size := ⟨_, rfl⟩
  rw [← hb] at hs0 ⊢
  replace hb : w.heap.size ≤ b := by omega
  have hbw := hs0.lt
  have hR := hide (aRegion_any b 0 w1 hs0 (by omega))
  go_wp2_with fail
  refine hR.out.mono ?_
  rintro e w2 ⟨A1, c1, rs, rfl, hO, hcap, hr3, hr6, ho2⟩
  have hl2 : Sl w2 (b + 1) A1 rs := hO.sl.mono (by omega)
  have hfl : (flatK rs rs.length).length ≤ 100000 := by have := flat_small hr6; omega
  have hgw2 := gr_new hg0 ho2.1 hb
  have hst2 := ho2.2
  clear hR hO ho2 hg0 hs0 hL hbw hr6
  have hP := fun W (hg : w2.grownBy W none) => (pick_any b (0 + 100) (some ⟨w2.heap.size, 0, none⟩) 8 8 [2, 2, 4, 6, 3, 0, 10000, 10002] (w2.alloc (.cells #[.int .i64 2, .int .i64 2, .int .i64 4, .int .i64 6, .int .i64 3, .int .i64 0, .int .i64 10000, .int .i64 10002] 3)) (hst2.pure (gr_alloc (World.grownBy.refl _ _) _)) (by omega) (sl_intsAt _ _ _ _ _ (by first | rfl | simp) (by have := hst2.lt; omega) (by simp [maxLen])) rfl (by simp))
  replace hP := hide (hP _ (World.grownBy.refl _ _))
  go_wp2_with fail
  refine hP.out.mono ?_
  rintro e w3 ⟨step, rfl, hstep, ho3⟩
  change SOut b _ (w2.alloc (.cells #[.int .i64 2, .int .i64 2, .int .i64 4, .int .i64 6, .int .i64 3, .int .i64 0, .int .i64 10000, .int .i64 10002] 3)) w3 at ho3
  have hgA : w2.grownBy (w2.alloc (.cells #[.int .i64 2, .int .i64 2, .int .i64 4, .int .i64 6, .int .i64 3, .int .i64 0, .int .i64 10000, .int .i64 10002] 3)) none := gr_alloc (World.grownBy.refl _ _) _
  generalize w2.alloc (.cells #[.int .i64 2, .int .i64 2, .int .i64 4, .int .i64 6, .int .i64 3, .int .i64 0, .int .i64 10000, .int .i64 10002] 3) = w2' at *
  have hl3 := (hl2.pure hgA).gr ho3.1 (fun q e => by injection e; omega)
  have hgw3 := gr_new (hgw2.t hgA) ho3.1 hb
  have hst3 := ho3.2
  have hstb : -1000000 ≤ step ∧ step ≤ 1000000 := by simp at hstep; omega
  clear hP hl2 hgA ho3 hgw2 hst2 hstep
  have hPt := hide (aPoint_any b _ w3 hst3 (by omega))
  go_wp2_with fail
  refine hPt.out.mono ?_
  rintro e w4 ⟨p, rfl, ho4⟩
  have hl4 := hl3.gr ho4.1 (fun q e => by injection e; omega)
  have hgw4 := gr_new hgw3 ho4.1 hb
  have hst4 := ho4.2
  clear hPt hl3 ho4 hgw3 hst3
  go_upto_region 3 with fail
  obtain ⟨w6, hw6⟩ : ∃ x, x = (w4).alloc (.cells [.int .i64 p.x, .int .i64 p.y].toArray 30) := ⟨_, rfl⟩
  have hg6 : (w4).grownBy w6 none := by rw [hw6]; exact gr_alloc (World.grownBy.refl _ _) _
  have hb6 : Box w6 (w4).heap.size 30 [.int .i64 p.x, .int .i64 p.y] := by rw [hw6]; exact Box.new _ _ _
  have hxs6 := hb6.lt
  rw [← hw6]
  clear hw6
  obtain ⟨x6, hx6⟩ : ∃ x, x = (w4).heap.size := ⟨_, rfl⟩
  rw [← hx6] at hb6 hxs6 ⊢
  have hxl6 : (w4).heap.size ≤ x6 := by omega
  clear hx6
  have hl6 := hl4.pure hg6
  have hgw6 := hgw4.t hg6
  have hst6 := hst4.pure hg6
  have hx6 : b ≠ x6 := by have := hst4.lt; omega
  clear hl4 hgw4 hst4 hg6 hxs6 hxl6
  have hP := hide (pick_any b _ (some ⟨w6.heap.size, 0, none⟩) 2 2 [2, 4] (w6.alloc (.cells #[.int .i64 2, .int .i64 4] 3)) (hst6.pure (gr_alloc (World.grownBy.refl _ _) _)) (by omega) (sl_intsAt _ _ _ _ _ (by first | rfl | simp) (by have := hst6.lt; omega) (by simp [maxLen])) rfl (by simp))
  go_wp2_with fail
  refine hP.out.mono ?_
  rintro e w7 ⟨st2, rfl, hst2m, ho7⟩
  change SOut b _ (w6.alloc (.cells #[.int .i64 2, .int .i64 4] 3)) w7 at ho7
  have hgA : w6.grownBy (w6.alloc (.cells #[.int .i64 2, .int .i64 4] 3)) none := gr_alloc (World.grownBy.refl _ _) _
  generalize w6.alloc (.cells #[.int .i64 2, .int .i64 4] 3) = w6' at *
  have hl7 := (hl6.pure hgA).gr ho7.1 (fun q e => by injection e; omega)
  have hb7 := (hb6.pure hgA).gr ho7.1 (by intro e; injection e with e; exact hx6 e)
  have hgw7 := gr_new (hgw6.t hgA) ho7.1 hb
  have hst7 := ho7.2
  have hst2b : 2 ≤ st2 ∧ st2 ≤ 10000 := by simp at hst2m; omega
  clear hP hl6 hb6 hgA ho7 hgw6 hst6 hst2m
  have hAC := hide (aCells_any b _ st2 w7 hst7 (by omega) hst2b)
  go_wp2_with fail
  refine hAC.out.mono ?_
  rintro e w8 ⟨cl, A8, cc8, rfl, hlc, hsz, ho8, -⟩
  obtain ⟨n8, hn8⟩ : ∃ q, q = cl.rows.length := ⟨_, rfl⟩
  rw [← hn8]
  have hl8 := (hl7.gr ho8.1 (fun q e => by injection e; omega)).mono (Nat.zero_le _)
  have hb8 := hb7.gr ho8.1 (by intro e; injection e with e; exact hx6 e)
  have hC8 := CArg.mk (w := w8) (hlc.mono (Nat.zero_le _)) hn8.symm (fun s hs => by have := hsz s hs; omega)
  have hgw8 := gr_new hgw7 ho8.1 hb
  replace hn8 := hide hn8
  clear hAC hl7 hb7 hlc hsz ho8 hgw7 hst7
  go_upto_region 4 with fail
  obtain ⟨w9, hw9⟩ : ∃ x, x = (w8).alloc (.cells [.int .i64 (cl).step, .int .i64 (cl).x, .int .i64 (cl).y, .slice A8 n8 cc8].toArray 34) := ⟨_, rfl⟩
  have hg9 : (w8).grownBy w9 none := by rw [hw9]; exact gr_alloc (World.grownBy.refl _ _) _
  have hb9 : Box w9 (w8).heap.size 34 [.int .i64 (cl).step, .int .i64 (cl).x, .int .i64 (cl).y, .slice A8 n8 cc8] := by rw [hw9]; exact Box.new _ _ _
  have hxs9 := hb9.lt
  rw [← hw9]
  clear hw9
  obtain ⟨x9, hx9⟩ : ∃ x, x = (w8).heap.size := ⟨_, rfl⟩
  rw [← hx9] at hb9 hxs9 ⊢
  have hxl9 : (w8).heap.size ≤ x9 := by omega
  clear hx9
  have hl := hl8.pure hg9
  have hbp := hb8.pure hg9
  have hC := hC8.pure hg9
  have hgw := hgw8.t hg9
  clear hl8 hb8 hC8 hgw8 hg9 hxs9 hxl9 hx6 hb
  have hck := hide fun wx (h : w9.grownBy wx none) => box4_c (hb9.pure h)
  have hcF := hide fun W (h : w9.grownBy W none) => checkArg_any cl A8 n8 cc8 W (hC.pure h)
  have hcR := hide fun W (h : w9.grownBy W none) => cellsFault_any cl A8 n8 cc8 W (hC.pure h)
  obtain ⟨F, hF⟩ : ∃ F, F = cellsF cl := ⟨_, rfl⟩
  rw [← hF] at hcF hcR
  replace hF := hide hF
  have hbF : (F != F) = false := by simp
  go_cut [41] (fun s wx => s = .bool false ∧ w9.grownBy wx none)
  case first =>
    refine wp_region_tree (fun wx => w9.grownBy wx none) [1, 0, 1, 0, 2] (.bl 0 (.bl 2 (.ef 1 (.ef 3 (.bl 4 .done))))) (by kernel_rfl) (by kernel_rfl) (gr_drew (World.grownBy.refl _ _)) ?_
    obtain ⟨u5, hu5⟩ : ∃ x, x = (w9).drew := ⟨_, rfl⟩
    rw [← hu5]
    have hgu5 : (w9).grownBy u5 none := by rw [hu5]; exact gr_drew (World.grownBy.refl _ _)
    clear hu5
    refine tree_b rfl rfl rfl rfl _ rfl (by simp) (fun K hK => ?_)
    apply Exists.intro
    refine ⟨fun wq hq K' hK' => ?_, ?_⟩
    · obtain ⟨⟨a0, -⟩, ⟨a1, -⟩, ⟨a2, -⟩, ⟨a3, -⟩⟩ := hck.out wq hq
      go_wp2_with fail
      exact hK'
    go_simp
    refine hK _ ?_
    clear hK K
    refine tree_b rfl rfl rfl rfl _ rfl (by simp) (fun K hK => ?_)
    apply Exists.intro
    refine ⟨fun wq hq K' hK' => ?_, ?_⟩
    · obtain ⟨⟨a0, -⟩, ⟨a1, -⟩, ⟨a2, -⟩, ⟨a3, -⟩⟩ := hck.out wq hq
      go_wp2_with fail
      exact hK'
    go_simp
    refine hK _ ?_
    clear hK K
    refine tree_e rfl rfl (fun K hK => ?_)
    go_wp2_with fail
    refine (hcF.out u5 (gr_trans hgu5 (World.grownBy.refl _ _))).mono ?_
    rintro e v1 ⟨rfl, hg1⟩
    go_wp2_with fail
    try go_simp
    refine hK _ _ (gr_trans hgu5 (gr_trans (World.grownBy.refl _ _) hg1)) ?_
    clear hK K
    refine tree_e0 (by kernel_rfl) rfl rfl (fun K hK => ?_)
    go_wp2_with fail
    refine (hcR.out v1 (gr_trans hgu5 hg1)).mono ?_
    rintro e v3 ⟨rfl, hg3⟩
    go_wp2_with fail
    try go_simp
    refine hK _ _ trivial ?_
    clear hK K
    refine tree_p rfl rfl rfl rfl _ rfl (by simp) (fun K hK => ?_)
    apply Exists.intro
    refine ⟨fun wq K' hK' => ?_, ?_⟩
    · go_wp2_with fail
      exact hK'
    go_simp
    refine hK _ ?_
    clear hK K
    refine tree_done ?_
    have hgz := gr_trans hgu5 (gr_trans hg1 hg3)
    go_wp2_with fail
    go_meet
    exact ⟨by simp, hgz⟩
  case rest =>
    obtain ⟨rfl, hgc⟩ := hcut
    have hlc := (hl.pure hgc).mono (Nat.zero_le _)
    have hFi := hide (filled_any A1 c1 rs step wc hlc hfl hstb)
    have hRF := hide fun W (h : wc.grownBy W none) => regionFault_any A1 c1 rs W (hlc.pure h) (by omega) hcap
    clear hcF hcR hbF
    go_wp2_with fail
    refine hFi.out.mono ?_
    rintro e w10 ⟨cf, ef, Cf, ccf, rfl, hRes, hOf, hg10⟩
    obtain ⟨nf, hnf⟩ : ∃ q, q = cf.rows.length := ⟨_, rfl⟩
    rw [← hnf]
    replace hnf := hide hnf
    have hSf := hOf.sl.mono (Nat.zero_le _)
    clear hFi hOf
    go_upto_region 7 with fail
    obtain ⟨w11, hw11⟩ : ∃ x, x = (w10).alloc (.cells [.int .i64 (cf).step, .int .i64 (cf).x, .int .i64 (cf).y, .slice Cf nf ccf].toArray 34) := ⟨_, rfl⟩
    have hg11 : (w10).grownBy w11 none := by rw [hw11]; exact gr_alloc (World.grownBy.refl _ _) _
    have hb11 : Box w11 (w10).heap.size 34 [.int .i64 (cf).step, .int .i64 (cf).x, .int .i64 (cf).y, .slice Cf nf ccf] := by rw [hw11]; exact Box.new _ _ _
    have hxs11 := hb11.lt
    rw [← hw11]
    clear hw11
    obtain ⟨x11, hx11⟩ : ∃ x, x = (w10).heap.size := ⟨_, rfl⟩
    rw [← hx11] at hb11 hxs11 ⊢
    have hxl11 : (w10).heap.size ≤ x11 := by omega
    clear hx11
    have hq1 := hg11
    have hg1 := hg10.t hg11
    clear hg10 hg11 hxs11 hxl11
    go_wp2_with fail
    refine (hRF.out w11 hg1).mono ?_
    rintro e w12 ⟨rfl, hg12⟩
    have hb12 := hb11.pure hg12
    have hq2 := hq1.t hg12
    have hg2 := hg1.t hg12
    clear hRF hb11 hq1 hg1 hg12
    go_upto_region 9 with fail
    obtain ⟨w13, hw13⟩ : ∃ x, x = (w12).alloc (.cells [.int .i64 0, .int .i64 0, .int .i64 0, .slice none 0 0].toArray 34) := ⟨_, rfl⟩
    have hg13 : (w12).grownBy w13 none := by rw [hw13]; exact gr_alloc (World.grownBy.refl _ _) _
    have hb13 : Box w13 (w12).heap.size 34 [.int .i64 0, .int .i64 0, .int .i64 0, .slice none 0 0] := by rw [hw13]; exact Box.new _ _ _
    have hxs13 := hb13.lt
    rw [← hw13]
    clear hw13
    obtain ⟨x13, hx13⟩ : ∃ x, x = (w12).heap.size := ⟨_, rfl⟩
    rw [← hx13] at hb13 hxs13 ⊢
    have hxl13 : (w12).heap.size ≤ x13 := by omega
    clear hx13
    have hb2 := hb12.pure hg13
    have hq3 := hq2.t hg13
    have hxq : w10.heap.size ≤ x13 := by have := hq2.size; omega
    have hg3 := hg2.t hg13
    have hne : x11 ≠ x13 := by have := hb12.lt; omega
    have hxw : wc.heap.size ≤ x13 := by have := hg2.size; omega
    clear hb12 hq2 hg2 hg13
    by_cases h0 : regF rs = 0
    · have hFO := hide (filledOf_any A1 c1 rs step w13 (hlc.pure hg3) h0 hstb)
      rw [h0] at hRes ⊢
      clear h0
      go_wp2_with fail
      refine hFO.out.mono ?_
      rintro e w14 ⟨cg, eg, Cg, ccg, rfl, hRes2, hOg, hg14⟩
      obtain ⟨rfl, rfl⟩ := hRes.uniq hRes2
      rw [← hnf.out]
      have hb13' := hb13.pure hg14
      have hb2' := hb2.pure hg14
      have hq4 := hq3.t hg14
      have hx13 := hb13.lt
      have hg4 := hg3.t hg14
      clear hFO hb13 hb2 hq3 hg14 hRes hRes2
      obtain ⟨⟨d0, f0⟩, ⟨d1, f1⟩, ⟨d2, f2⟩, ⟨d3, f3⟩⟩ := box4_c hb13'
      go_upto_region 11 with fail
      clear d0 d1 d2 d3 f0 f1 f2 f3
      have hgs := set4_gr (w := w14) (g := x13) (.int .i64 cf.step) (.int .i64 cf.x) (.int .i64 cf.y) (.slice Cg nf ccg)
      have hg5 := gr_new hg4 hgs hxw
      have hb14 := box_set4 hb13' (.int .i64 cf.step) (.int .i64 cf.x) (.int .i64 cf.y) (.slice Cg nf ccg)
      have hb3 := hb2'.gr hgs (by intro e; injection e with e; exact hne e.symm)
      have hSg := (hOg.ne hgs (fun g hb e => by have := (hOg.blk_lt hb).1; injection e; omega)).sl.mono (Nat.zero_le _)
      have hSf5 := hSf.pure (gr_new hq4 hgs hxq)
      generalize (((w14.setCell ⟨x13, 0, none⟩ (.int .i64 cf.step)).setCell ⟨x13, 1, none⟩ (.int .i64 cf.x)).setCell ⟨x13, 2, none⟩ (.int .i64 cf.y)).setCell ⟨x13, 3, none⟩ (.slice Cg nf ccg) = w15 at *
      have hSC := hide (sameCells_any cf Cf nf ccf Cg ccg w15 hSf5 hSg hnf.out.symm)
      obtain ⟨⟨d0, -⟩, ⟨d1, -⟩, ⟨d2, -⟩, ⟨d3, -⟩⟩ := box4_c hb14
      obtain ⟨⟨e0, -⟩, ⟨e1, -⟩, ⟨e2, -⟩, ⟨e3, -⟩⟩ := box4_c hb3
      have hbe : (ef != ef) = false := by simp
      clear hgs hb13' hb2' hSf hOg hq4 hSg hSf5
      go_wp2_with fail
      refine hSC.out.mono ?_
      rintro e w16 ⟨rfl, hg16⟩
      have hgz := hg5.t hg16
      clear d0 d1 d2 d3 e0 e1 e2 e3 hSC hb14 hb3 hg16 hg5 hg4
      go_upto_region 13 with fail
      have hgB := hgc.t hgz
      have hCt := hide (countE_any cl A8 n8 cc8 w16 (hC.pure hgB))
      rw [← hF.out] at hCt
      obtain ⟨⟨a0, -⟩, ⟨a1, -⟩, ⟨a2, -⟩, ⟨a3, -⟩⟩ := hck.out w16 hgB
      go_wp2_with fail
      refine hCt.out.mono ?_
      rintro e w20 ⟨N, E, rfl, hNE, hNZ, hg20⟩
      replace hgB := hgB.t hg20
      replace hNE := hide hNE
      replace hNZ := hide hNZ
      clear a0 a1 a2 a3 hCt hg20 hgz
      have hHs := hide (has_any cl A8 n8 cc8 p w20 (hC.pure hgB))
      obtain ⟨⟨a0, -⟩, ⟨a1, -⟩, ⟨a2, -⟩, ⟨a3, -⟩⟩ := hck.out w20 hgB
      obtain ⟨p0, -⟩ := (hbp.pure hgB).c 0 rfl
      obtain ⟨p1, -⟩ := (hbp.pure hgB).c 1 rfl
      go_wp2_with fail
      refine hHs.out.mono ?_
      rintro e w21 ⟨rfl, hg21⟩
      replace hgB := hgB.t hg21
      obtain ⟨HE, hHE⟩ : ∃ q, q = hasE cl p := ⟨_, rfl⟩
      obtain ⟨HV, hHV⟩ : ∃ q, q = hasV cl p := ⟨_, rfl⟩
      rw [← hHE, ← hHV]
      replace hHE := hide hHE
      replace hHV := hide hHV
      clear a0 a1 a2 a3 p0 p1 hHs hg21
      have hCF := hide (cellsFault_any cl A8 n8 cc8 w21 (hC.pure hgB))
      rw [← hF.out] at hCF
      obtain ⟨⟨a0, -⟩, ⟨a1, -⟩, ⟨a2, -⟩, ⟨a3, -⟩⟩ := hck.out w21 hgB
      go_wp2_with fail
      refine hCF.out.mono ?_
      rintro e w22 ⟨rfl, hg22⟩
      replace hgB := hgB.t hg22
      clear a0 a1 a2 a3 hCF hg22
      obtain ⟨p0, -⟩ := (hbp.pure hgB).c 0 rfl
      obtain ⟨p1, -⟩ := (hbp.pure hgB).c 1 rfl
      have hgA := gr_alloc (World.grownBy.refl w22 none) (.cells #[.int .i64 p.x, .int .i64 p.y] 30)
      have hPF := hide (pointFault_any (some ⟨w22.heap.size, 0, none⟩) 1 [p] (w22.alloc (.cells #[.int .i64 p.x, .int .i64 p.y] 30)) (sl_oneAt w22 0 [.int .i64 p.x, .int .i64 p.y] _ p _ rfl (Nat.zero_le _) rfl))
      obtain ⟨pf, hpf⟩ : ∃ q, q = pointsF [p] := ⟨_, rfl⟩
      rw [← hpf] at hPF
      replace hpf := hide hpf
      go_wp2_with fail
      refine hPF.out.mono ?_
      rintro e w23 ⟨rfl, hg23⟩
      replace hgB := hgB.t (hgA.t hg23)
      clear p0 p1 hPF hgA hg23
      have hgA := gr_alloc (World.grownBy.refl w23 none) (.cells #[.int .i64 F, .int .i64 pf] 36)
      have hOr := hide (or_any (some ⟨w23.heap.size, 0, none⟩) 2 2 [F, pf] (w23.alloc (.cells #[.int .i64 F, .int .i64 pf] 36)) (sl_intsAt _ _ _ _ _ rfl (Nat.zero_le _) (by simp [maxLen])) rfl)
      go_wp2_with fail
      refine hOr.out.mono ?_
      rintro e w24 ⟨rfl, hw24⟩
      replace hgB := hgB.t hgA
      rw [hw24] at hgB
      clear hgA hOr hw24
      obtain ⟨O, hO⟩ : ∃ q, q = orL [F, pf] := ⟨_, rfl⟩
      rw [← hO]
      replace hO := hide hO
      have hEO : HE = O := by rw [hHE.out, hasE_or, hO.out, hF.out, hpf.out]
      have hHZ : O ≠ 0 → HV = false := fun h => by rw [hHV.out]; unfold hasV; rw [← hHE.out, hEO]; simp [h]
      have hHO : O = 0 → HV = onC cl (p.x / cl.step) (p.y / cl.step) := fun h => by rw [hHV.out]; unfold hasV; rw [← hHE.out, hEO]; simp [h]
      clear hHE hHV
      subst hEO
      replace hHZ := hide hHZ
      replace hHO := hide hHO
      by_cases hF0 : F = 0
      · have hok := cells_ok.1 (hF.out.symm.trans hF0)
        have hCO := hide (countOfR_any cl A8 n8 cc8 w24 (hC.pure hgB) hok.fit)
        subst hF0
        clear hNZ
        obtain ⟨⟨a0, -⟩, ⟨a1, -⟩, ⟨a2, -⟩, ⟨a3, -⟩⟩ := hck.out w24 hgB
        go_wp2_with fail
        refine hCO.out.mono ?_
        rintro e w25 ⟨l, rfl, hnd, hmem, hg25⟩
        have hcs := counts_same hok hnd hmem
        obtain ⟨hN, hE⟩ := hNE.out hok
        rw [hcs.1] at hN
        rw [hcs.2] at hE
        rw [← hN, ← hE]
        replace hgB := hgB.t hg25
        clear a0 a1 a2 a3 hCO hg25 hcs hnd hmem hNE hN hE
        by_cases hO0 : HE = 0
        · have hfp : farP p = false := by
            have h1 := hO.out
            rw [hO0, hpf.out] at h1
            rcases hq : farP p with _ | _
            · rfl
            · simp [orL, pointsF, hq] at h1
          have hHP := hide (hasPoint_any cl A8 n8 cc8 p w25 (hC.pure hgB) hok.fit hfp)
          have hv := hHO.out hO0
          rw [← hv] at hHP
          subst hO0
          clear hHZ hHO hO hpf hfp hv hF hok
          obtain ⟨⟨a0, -⟩, ⟨a1, -⟩, ⟨a2, -⟩, ⟨a3, -⟩⟩ := hck.out w25 hgB
          obtain ⟨p0, -⟩ := (hbp.pure hgB).c 0 rfl
          obtain ⟨p1, -⟩ := (hbp.pure hgB).c 1 rfl
          go_wp2_with fail
          refine hHP.out.mono ?_
          rintro e w26 ⟨rfl, hg26⟩
          replace hgB := hgB.t hg26
          clear a0 a1 a2 a3 p0 p1 hHP hg26
          go_wp2_with fail
          refine (regioned_any _).mono ?_
          rintro e w27 ⟨rfl, hg27⟩
          replace hgB := hgB.t hg27
          go_wp2_with fail
          go_ret
          exact ⟨rfl, hgw.t hgB⟩
        · have hv := hHZ.out hO0
          subst hv
          have hb0 : (HE == 0) = false := by simpa using hO0
          clear hHZ hHO hO hpf hF hok hO0
          go_wp2_with fail
          refine (regioned_any _).mono ?_
          rintro e w27 ⟨rfl, hg27⟩
          replace hgB := hgB.t hg27
          go_wp2_with fail
          go_ret
          exact ⟨rfl, hgw.t hgB⟩
      · obtain ⟨rfl, rfl⟩ := hNZ.out hF0
        have hEF : HE = F := by rw [hO.out]; unfold orL; rw [if_pos hF0]
        subst hEF
        have hv := hHZ.out hF0
        subst hv
        have hb0 : (HE == 0) = false := by simpa using hF0
        clear hHZ hHO hO hpf hF hF0 hNE
        go_wp2_with fail
        refine (regioned_any _).mono ?_
        rintro e w27 ⟨rfl, hg27⟩
        replace hgB := hgB.t hg27
        go_wp2_with fail
        go_ret
        exact ⟨rfl, hgw.t hgB⟩
    · have hE : fillE (regF rs) rs step = regF rs := by unfold fillE; rw [if_pos h0]
      rw [hE] at hRes
      have hz : cf = ⟨0, 0, 0, []⟩ ∧ ef = regF rs := by
        rcases hRes with ⟨-, h⟩ | ⟨h, -⟩
        · exact h
        · exact absurd h h0
      obtain ⟨rfl, rfl⟩ := hz
      obtain rfl : nf = 0 := hnf.out
      have hRb : (regF rs == 0) = false := by simpa using h0
      generalize regF rs = R at *
      have hSC := hide (sameCells_any ⟨0, 0, 0, []⟩ Cf 0 ccf none 0 w13 Sl.nil Sl.nil rfl)
      obtain ⟨⟨d0, -⟩, ⟨d1, -⟩, ⟨d2, -⟩, ⟨d3, -⟩⟩ := box4_c hb13
      obtain ⟨⟨e0, -⟩, ⟨e1, -⟩, ⟨e2, -⟩, ⟨e3, -⟩⟩ := box4_c hb2
      have hbe : (R != R) = false := by simp
      clear hE hRes hnf h0 hSf hq3
      go_wp2_with fail
      refine hSC.out.mono ?_
      rintro e w16 ⟨rfl, hg16⟩
      have hgz := hg3.t hg16
      clear d0 d1 d2 d3 e0 e1 e2 e3 hSC hb13 hb2 hg16 hg3
      go_upto_region 13 with fail
      have hgB := hgc.t hgz
      have hCt := hide (countE_any cl A8 n8 cc8 w16 (hC.pure hgB))
      rw [← hF.out] at hCt
      obtain ⟨⟨a0, -⟩, ⟨a1, -⟩, ⟨a2, -⟩, ⟨a3, -⟩⟩ := hck.out w16 hgB
      go_wp2_with fail
      refine hCt.out.mono ?_
      rintro e w20 ⟨N, E, rfl, hNE, hNZ, hg20⟩
      replace hgB := hgB.t hg20
      replace hNE := hide hNE
      replace hNZ := hide hNZ
      clear a0 a1 a2 a3 hCt hg20 hgz
      have hHs := hide (has_any cl A8 n8 cc8 p w20 (hC.pure hgB))
      obtain ⟨⟨a0, -⟩, ⟨a1, -⟩, ⟨a2, -⟩, ⟨a3, -⟩⟩ := hck.out w20 hgB
      obtain ⟨p0, -⟩ := (hbp.pure hgB).c 0 rfl
      obtain ⟨p1, -⟩ := (hbp.pure hgB).c 1 rfl
      go_wp2_with fail
      refine hHs.out.mono ?_
      rintro e w21 ⟨rfl, hg21⟩
      replace hgB := hgB.t hg21
      obtain ⟨HE, hHE⟩ : ∃ q, q = hasE cl p := ⟨_, rfl⟩
      obtain ⟨HV, hHV⟩ : ∃ q, q = hasV cl p := ⟨_, rfl⟩
      rw [← hHE, ← hHV]
      replace hHE := hide hHE
      replace hHV := hide hHV
      clear a0 a1 a2 a3 p0 p1 hHs hg21
      have hCF := hide (cellsFault_any cl A8 n8 cc8 w21 (hC.pure hgB))
      rw [← hF.out] at hCF
      obtain ⟨⟨a0, -⟩, ⟨a1, -⟩, ⟨a2, -⟩, ⟨a3, -⟩⟩ := hck.out w21 hgB
      go_wp2_with fail
      refine hCF.out.mono ?_
      rintro e w22 ⟨rfl, hg22⟩
      replace hgB := hgB.t hg22
      clear a0 a1 a2 a3 hCF hg22
      obtain ⟨p0, -⟩ := (hbp.pure hgB).c 0 rfl
      obtain ⟨p1, -⟩ := (hbp.pure hgB).c 1 rfl
      have hgA := gr_alloc (World.grownBy.refl w22 none) (.cells #[.int .i64 p.x, .int .i64 p.y] 30)
      have hPF := hide (pointFault_any (some ⟨w22.heap.size, 0, none⟩) 1 [p] (w22.alloc (.cells #[.int .i64 p.x, .int .i64 p.y] 30)) (sl_oneAt w22 0 [.int .i64 p.x, .int .i64 p.y] _ p _ rfl (Nat.zero_le _) rfl))
      obtain ⟨pf, hpf⟩ : ∃ q, q = pointsF [p] := ⟨_, rfl⟩
      rw [← hpf] at hPF
      replace hpf := hide hpf
      go_wp2_with fail
      refine hPF.out.mono ?_
      rintro e w23 ⟨rfl, hg23⟩
      replace hgB := hgB.t (hgA.t hg23)
      clear p0 p1 hPF hgA hg23
      have hgA := gr_alloc (World.grownBy.refl w23 none) (.cells #[.int .i64 F, .int .i64 pf] 36)
      have hOr := hide (or_any (some ⟨w23.heap.size, 0, none⟩) 2 2 [F, pf] (w23.alloc (.cells #[.int .i64 F, .int .i64 pf] 36)) (sl_intsAt _ _ _ _ _ rfl (Nat.zero_le _) (by simp [maxLen])) rfl)
      go_wp2_with fail
      refine hOr.out.mono ?_
      rintro e w24 ⟨rfl, hw24⟩
      replace hgB := hgB.t hgA
      rw [hw24] at hgB
      clear hgA hOr hw24
      obtain ⟨O, hO⟩ : ∃ q, q = orL [F, pf] := ⟨_, rfl⟩
      rw [← hO]
      replace hO := hide hO
      have hEO : HE = O := by rw [hHE.out, hasE_or, hO.out, hF.out, hpf.out]
      have hHZ : O ≠ 0 → HV = false := fun h => by rw [hHV.out]; unfold hasV; rw [← hHE.out, hEO]; simp [h]
      have hHO : O = 0 → HV = onC cl (p.x / cl.step) (p.y / cl.step) := fun h => by rw [hHV.out]; unfold hasV; rw [← hHE.out, hEO]; simp [h]
      clear hHE hHV
      subst hEO
      replace hHZ := hide hHZ
      replace hHO := hide hHO
      by_cases hF0 : F = 0
      · have hok := cells_ok.1 (hF.out.symm.trans hF0)
        have hCO := hide (countOfR_any cl A8 n8 cc8 w24 (hC.pure hgB) hok.fit)
        subst hF0
        clear hNZ
        obtain ⟨⟨a0, -⟩, ⟨a1, -⟩, ⟨a2, -⟩, ⟨a3, -⟩⟩ := hck.out w24 hgB
        go_wp2_with fail
        refine hCO.out.mono ?_
        rintro e w25 ⟨l, rfl, hnd, hmem, hg25⟩
        have hcs := counts_same hok hnd hmem
        obtain ⟨hN, hE⟩ := hNE.out hok
        rw [hcs.1] at hN
        rw [hcs.2] at hE
        rw [← hN, ← hE]
        replace hgB := hgB.t hg25
        clear a0 a1 a2 a3 hCO hg25 hcs hnd hmem hNE hN hE
        by_cases hO0 : HE = 0
        · have hfp : farP p = false := by
            have h1 := hO.out
            rw [hO0, hpf.out] at h1
            rcases hq : farP p with _ | _
            · rfl
            · simp [orL, pointsF, hq] at h1
          have hHP := hide (hasPoint_any cl A8 n8 cc8 p w25 (hC.pure hgB) hok.fit hfp)
          have hv := hHO.out hO0
          rw [← hv] at hHP
          subst hO0
          clear hHZ hHO hO hpf hfp hv hF hok
          obtain ⟨⟨a0, -⟩, ⟨a1, -⟩, ⟨a2, -⟩, ⟨a3, -⟩⟩ := hck.out w25 hgB
          obtain ⟨p0, -⟩ := (hbp.pure hgB).c 0 rfl
          obtain ⟨p1, -⟩ := (hbp.pure hgB).c 1 rfl
          go_wp2_with fail
          refine hHP.out.mono ?_
          rintro e w26 ⟨rfl, hg26⟩
          replace hgB := hgB.t hg26
          clear a0 a1 a2 a3 p0 p1 hHP hg26
          go_wp2_with fail
          refine (regioned_any _).mono ?_
          rintro e w27 ⟨rfl, hg27⟩
          replace hgB := hgB.t hg27
          go_wp2_with fail
          go_ret
          exact ⟨rfl, hgw.t hgB⟩
        · have hv := hHZ.out hO0
          subst hv
          have hb0 : (HE == 0) = false := by simpa using hO0
          clear hHZ hHO hO hpf hF hok hO0
          go_wp2_with fail
          refine (regioned_any _).mono ?_
          rintro e w27 ⟨rfl, hg27⟩
          replace hgB := hgB.t hg27
          go_wp2_with fail
          go_ret
          exact ⟨rfl, hgw.t hgB⟩
      · obtain ⟨rfl, rfl⟩ := hNZ.out hF0
        have hEF : HE = F := by rw [hO.out]; unfold orL; rw [if_pos hF0]
        subst hEF
        have hv := hHZ.out hF0
        subst hv
        have hb0 : (HE == 0) = false := by simpa using hF0
        clear hHZ hHO hO hpf hF hF0 hNE
        go_wp2_with fail
        refine (regioned_any _).mono ?_
        rintro e w27 ⟨rfl, hg27⟩
        replace hgB := hgB.t hg27
        go_wp2_with fail
        go_ret
        exact ⟨rfl, hgw.t hgB⟩

end Go.Proofs.YtgcpegjggakemaaGreatDoor
