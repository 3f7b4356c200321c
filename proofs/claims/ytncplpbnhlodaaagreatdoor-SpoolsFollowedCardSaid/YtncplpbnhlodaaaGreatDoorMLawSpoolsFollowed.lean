/- Contracts of functions that this seat's laws reach, each: what one call returns and what it leaves in memory; no condition beyond each theorem's own hypotheses. -/
import Derived.Test.YtncplpbnhlodaaaGreatDoorMDrawI
import Derived.Test.YtncplpbnhlodaaaGreatDoorMDrawG
import Derived.Test.YtncplpbnhlodaaaGreatDoorMSpoolL
import Derived.Test.YtncplpbnhlodaaaGreatDoorMSpoolC
import Derived.Test.YtncplpbnhlodaaaGreatDoorMStayA
import Derived.Test.YtncplpbnhlodaaaGreatDoorMTabOf
import Derived.Test.YtncplpbnhlodaaaGreatDoorMFlowE
set_option linter.unusedVariables false
set_option linter.unusedSimpArgs false
namespace Go.Proofs.YtncplpbnhlodaaaGreatDoor
open Go Go.RowKit Go.Bl

set_option maxHeartbeats 8000000 in
set_option maxRecDepth 100000 in
theorem spoolsFollowed_law (A : Option Addr) (n c : Nat) (L : List Int) (w : World) (hL : Sl w 0 A L) (hn : L.length = n) (hT : Tab w) :
    Calls Tryz.prog 3 #[.slice A n c] w fun e w' => e = .returned (.bool true) ∧ w.grownBy w' none := by
  have hs0 := strm_new (c := c) 25 hL hn
  have hg0 := gr_alloc (World.grownBy.refl w none) (.cells #[.slice A n c, .int .i64 0] 25)
  have hS0 := SOut.refl hs0
  have htl := Tab.lt hT
  go_enter Tryz.func3, Tryz.ntmps3
  go_wp2_with fail
  refine (spoolList_any _ 0 _ hs0 (by omega)).mono ?_
  rintro e w1 ⟨s, A1, c1, rfl, hp, hs5, -, ho1⟩
  replace hS0 := hS0.trans ho1
  clear ho1
  go_wp2_with fail
  refine (drawList_any _ _ _ hS0.2 (by omega)).mono ?_
  rintro e w2 ⟨d, A2, c2, rfl, hq, hd8, -, ho2⟩
  replace hS0 := hS0.trans ho2
  replace hp := hp.s ho2 (Nat.lt_succ_self _)
  clear ho2
  go_wp2_with fail
  refine (aClock_any _ _ _ hS0.2 (by omega)).mono ?_
  rintro e w3 ⟨at_, rfl, hat, ho3⟩
  replace hS0 := hS0.trans ho3
  replace hp := (hp.s ho3 (Nat.lt_succ_self _)).mono (Nat.zero_le _)
  replace hq := (hq.s ho3 (Nat.lt_succ_self _)).mono (Nat.zero_le _)
  have hgw : w.grownBy w3 none := gr_new hg0 hS0.1 (Nat.le_refl _)
  clear ho3 hs0 hg0 hL
  have hC1 := checkSpools_any A1 c1 s w3 hp
  have hC2 := fun wx (hx : w3.grownBy wx none) => spoolsFault_any A1 c1 s wx (hp.pure hx)
  have hC3 := fun wx (hx : w3.grownBy wx none) => drawsFaultR_any A1 c1 s A2 c2 d wx (hp.pure hx) (hq.pure hx)
  have hC5 := fun wx (hx : w3.grownBy wx none) => left_all A1 c1 s A2 c2 d at_ wx (hp.pure hx) (hq.pure hx)
  have hC6 := fun wx (hx : w3.grownBy wx none) => refused_all A1 c1 s A2 c2 d wx (hp.pure hx) (hq.pure hx)
  have hor := oneF_or s d at_
  have hC7 := fun wx (hx : w3.grownBy wx none) (h0 : oneF s d at_ = 0) => leftAt_all A1 c1 s A2 c2 d at_ wx (hp.pure hx) (hq.pure hx) h0
  have hC8 := fun wx (hx : w3.grownBy wx none) (h0 : drwsF s d = 0) => refusedDraws_all A1 c1 s A2 c2 d wx (hp.pure hx) (hq.pure hx) h0
  have hN7 := @leftL_nil s d at_
  have hN8 := @refL_nil s d
  have hsf : ∀ F : Int, (F != F) = false := fun F => by simp
  have hD0 : oneF s d at_ = 0 → drwsF s d = 0 := fun h => by
    unfold oneF at h
    by_cases hf : drwsF s d = 0
    · exact hf
    · rw [if_pos hf] at h; exact absurd h hf
  generalize splsF s = P at *
  generalize leftL s d at_ = LL at *
  generalize refL s d = RL at *
  generalize oneF s d at_ = O at *
  generalize drwsF s d = D at *
  have hpp := hsf P
  have hoo := hsf O
  have hdd := hsf D
  clear hsf
  replace hor := hide hor
  replace hD0 := hide hD0
  replace hN7 := hide hN7
  replace hN8 := hide hN8
  replace hC7 := hide hC7
  replace hC8 := hide hC8
  replace hat := hide hat
  go_wp2_with fail
  refine hC1.mono ?_
  rintro e x1 ⟨rfl, hx1⟩
  clear hC1
  go_wp2_with fail
  refine (hC2 _ hx1).mono ?_
  rintro e x2 ⟨rfl, hx2⟩
  replace hx2 := hx1.t hx2
  clear hC2
  go_wp2_with fail
  refine (hC3 _ hx2).mono ?_
  rintro e x3 ⟨rfl, hx3⟩
  replace hx3 := hx2.t hx3
  clear hC3
  go_wp2_with (go_at_call 11; refine (momentFault_any _ _).mono ?_; rintro _ _ ⟨rfl, rfl⟩)
  refine (or_any _ 2 2 [D, spanF at_ 0 345686399999] _ (sl_intsAt x3 0 31 [D, spanF at_ 0 345686399999] _ (by first | rfl | simp) (Nat.zero_le _) (by simp [maxLen])) rfl).mono ?_
  rintro e x4 ⟨rfl, rfl⟩
  rw [hor.out]
  have hx4 : w3.grownBy (x3.alloc (.cells #[.int .i64 D, .int .i64 (spanF at_ 0 345686399999)] 31)) none := gr_alloc hx3 _
  go_wp2_with fail
  refine (hC5 _ hx4).mono ?_
  rintro e x5 ⟨A6, c6, rfl, hl6, hx5⟩
  replace hx5 := hx4.t hx5
  clear hC5
  go_wp2_with fail
  refine (hC6 _ hx5).mono ?_
  rintro e x6 ⟨A7, c7, rfl, hl7, hx6⟩
  replace hl6 := hl6.pure hx6
  replace hx6 := hx5.t hx6
  clear hC6
  by_cases hO : O = 0
  · obtain rfl := hD0.out hO
    subst hO
    go_wp2_with fail
    refine (hC7.out _ hx6 (by trivial)).mono ?_
    rintro e x7 ⟨B1, d1, rfl, hm1, hx7⟩
    replace hl6 := hl6.pure hx7
    replace hl7 := hl7.pure hx7
    replace hx7 := hx6.t hx7
    go_wp2_with fail
    refine (hC8.out _ hx7 (by trivial)).mono ?_
    rintro e wz ⟨B2, d2, rfl, hm2, hx8⟩
    replace hl6 := hl6.pure hx8
    replace hl7 := hl7.pure hx8
    replace hm1 := hm1.pure hx8
    replace hx8 := hx7.t hx8
    have hgz := hgw.t hx8
    have hlz := hq.pure hx8
    have hSz := hS0.pure hx8
    clear hp hq hS0 hC7 hC8 hN7 hN8
    have hE1 := fun wx (hx : wz.grownBy wx none) => equalInts_any A6 B1 c6 d1 _ _ wx (hl6.pure hx) ((fun wx hx => hm1.pure hx) wx hx)
    have hE2 := fun wx (hx : wz.grownBy wx none) => equalInts_any A7 B2 c7 d2 _ _ wx (hl7.pure hx) ((fun wx hx => hm2.pure hx) wx hx)
    rw [eqB_refl] at hE1 hE2
    go_wp2_with fail
    refine (hE1 _ (World.grownBy.refl _ _)).mono ?_
    rintro e z1 ⟨rfl, hz1⟩
    clear hE1
    go_wp2_with fail
    refine (hE2 _ hz1).mono ?_
    rintro e wm ⟨rfl, hz2⟩
    clear hE2
    have hgm := hgz.t (hz1.t hz2)
    have hlm := hlz.pure (hz1.t hz2)
    have hSm := hSz.pure (hz1.t hz2)
    clear hl6 hl7 hlz hSz hz1 hz2 hgz
    by_cases hx0 : txsF d = 0
    · have hTx := drawText_any A2 c2 d wm hlm hx0 (by have := drawText_len (txsF_zero hx0).2; omega) (hT.gr hgm)
      have hLs := fun wx (hx : wm.grownBy wx none) => drawLines_any A2 c2 d wx (hlm.pure hx) hx0 (by have := drawText_len (txsF_zero hx0).2; omega) (hT.gr (hgm.t hx))
      have hFx := fun wx (hx : wm.grownBy wx none) => drawLinesFault_any A2 c2 d wx (hlm.pure hx)
      rw [hx0] at hFx
      replace hx0 := hide hx0
      generalize mkB (drawText d) = T at *
      go_wp2_with fail
      refine hTx.mono ?_
      rintro e y1 ⟨rfl, hy1⟩
      clear hTx
      go_wp2_with fail
      refine (hFx _ hy1).mono ?_
      rintro e y2 ⟨rfl, hy2⟩
      clear hFx
      replace hy2 := hy1.t hy2
      go_wp2_with fail
      refine (hLs _ hy2).mono ?_
      rintro e wt ⟨rfl, hy3⟩
      clear hLs
      have hgt := hgm.t (hy2.t hy3)
      have hSt := hSm.pure (hy2.t hy3)
      clear hlm hSm
      have hDS := drawString_any w.heap.size _ wt hSt.2 (by omega) (hT.gr hgt) htl
      go_wp2_with fail
      refine hDS.mono ?_
      rintro e w5 ⟨u, rfl, hus, ho5⟩
      clear hDS
      have hgw5 : w.grownBy w5 none := gr_new hgt ho5.1 (Nat.le_refl _)
      have hR1 := drawRead_any u w5
      have hR2 := fun wx (hx : w5.grownBy wx none) => drawsRead_any u wx (hT.gr (hgw5.t hx))
      obtain ⟨RR, hRR⟩ : ∃ r, readD u.data.toList = r := ⟨_, rfl⟩
      rw [hRR] at hR1 hR2
      obtain ⟨x, i, ee⟩ := RR
      simp only at hR1 hR2
      clear hRR ho5 hSt
      go_wp2_with fail
      refine hR1.mono ?_
      rintro e w8 ⟨A8, c8, rfl, hl8, hg8⟩
      clear hR1
      go_wp2_with fail
      refine (hR2 _ hg8).mono ?_
      rintro e w9 ⟨A9, c9, rfl, hl9, hg9⟩
      clear hR2
      have hSP := sameDrw_any A8 c8 x A9 c9 w9 (hl8.pure hg9) hl9
      have hgw9 := hgw5.t (hg8.t hg9)
      have hPd := fun wx => flowed_any wx
      go_wp2_with fail
      refine hSP.mono ?_
      rintro e wa ⟨rfl, hga⟩
      go_wp2_with fail
      refine (hPd _).mono ?_
      rintro e wb ⟨rfl, hgb⟩
      go_wp2_with fail
      go_ret
      exact ⟨rfl, hgw9.t (hga.t hgb)⟩
    · have hTx := textNo_any A2 c2 d wm hlm hx0
      have hFx := fun wx (hx : wm.grownBy wx none) => drawLinesFault_any A2 c2 d wx (hlm.pure hx)
      obtain ⟨F, hFe⟩ : ∃ F, txsF d = F := ⟨_, rfl⟩
      rw [hFe] at hTx hFx hx0
      have hb0 : (F == 0) = false := beq_eq_false_iff_ne.2 hx0
      have hb1 : (F != 0) = true := by simp [hx0]
      have hb2 : (F != F) = false := by simp
      clear hFe
      replace hx0 := hide hx0
      go_wp2_with fail
      refine hTx.mono ?_
      rintro e y1 ⟨rfl, hy1⟩
      clear hTx
      go_wp2_with fail
      refine (hFx _ hy1).mono ?_
      rintro e wt ⟨rfl, hy2⟩
      clear hFx
      have hgt := hgm.t (hy1.t hy2)
      have hSt := hSm.pure (hy1.t hy2)
      clear hlm hSm
      have hDS := drawString_any w.heap.size _ wt hSt.2 (by omega) (hT.gr hgt) htl
      go_wp2_with fail
      refine hDS.mono ?_
      rintro e w5 ⟨u, rfl, hus, ho5⟩
      clear hDS
      have hgw5 : w.grownBy w5 none := gr_new hgt ho5.1 (Nat.le_refl _)
      have hR1 := drawRead_any u w5
      have hR2 := fun wx (hx : w5.grownBy wx none) => drawsRead_any u wx (hT.gr (hgw5.t hx))
      obtain ⟨RR, hRR⟩ : ∃ r, readD u.data.toList = r := ⟨_, rfl⟩
      rw [hRR] at hR1 hR2
      obtain ⟨x, i, ee⟩ := RR
      simp only at hR1 hR2
      clear hRR ho5 hSt
      go_wp2_with fail
      refine hR1.mono ?_
      rintro e w8 ⟨A8, c8, rfl, hl8, hg8⟩
      clear hR1
      go_wp2_with fail
      refine (hR2 _ hg8).mono ?_
      rintro e w9 ⟨A9, c9, rfl, hl9, hg9⟩
      clear hR2
      have hSP := sameDrw_any A8 c8 x A9 c9 w9 (hl8.pure hg9) hl9
      have hgw9 := hgw5.t (hg8.t hg9)
      have hPd := fun wx => flowed_any wx
      go_wp2_with fail
      refine hSP.mono ?_
      rintro e wa ⟨rfl, hga⟩
      go_wp2_with fail
      refine (hPd _).mono ?_
      rintro e wb ⟨rfl, hgb⟩
      go_wp2_with fail
      go_ret
      exact ⟨rfl, hgw9.t (hga.t hgb)⟩
  · have hob : (O == 0) = false := beq_eq_false_iff_ne.2 hO
    obtain rfl := hN7.out hO
    replace hO := hide hO
    by_cases hDz : D = 0
    · subst hDz
      go_wp2_with fail
      refine (hC8.out _ hx6 (by trivial)).mono ?_
      rintro e wz ⟨B2, d2, rfl, hm2, hx8⟩
      replace hl6 := hl6.pure hx8
      replace hl7 := hl7.pure hx8
      replace hx8 := hx6.t hx8
      have hgz := hgw.t hx8
      have hlz := hq.pure hx8
      have hSz := hS0.pure hx8
      clear hp hq hS0 hC7 hC8 hN7 hN8
      have hE1 := fun wx (hx : wz.grownBy wx none) => equalInts_any A6 none c6 0 _ _ wx (hl6.pure hx) ((fun wx hx => (Sl.nil : Sl wx 0 none ([] : List Int))) wx hx)
      have hE2 := fun wx (hx : wz.grownBy wx none) => equalInts_any A7 B2 c7 d2 _ _ wx (hl7.pure hx) ((fun wx hx => hm2.pure hx) wx hx)
      rw [eqB_refl] at hE1 hE2
      go_wp2_with fail
      refine (hE1 _ (World.grownBy.refl _ _)).mono ?_
      rintro e z1 ⟨rfl, hz1⟩
      clear hE1
      go_wp2_with fail
      refine (hE2 _ hz1).mono ?_
      rintro e wm ⟨rfl, hz2⟩
      clear hE2
      have hgm := hgz.t (hz1.t hz2)
      have hlm := hlz.pure (hz1.t hz2)
      have hSm := hSz.pure (hz1.t hz2)
      clear hl6 hl7 hlz hSz hz1 hz2 hgz
      by_cases hx0 : txsF d = 0
      · have hTx := drawText_any A2 c2 d wm hlm hx0 (by have := drawText_len (txsF_zero hx0).2; omega) (hT.gr hgm)
        have hLs := fun wx (hx : wm.grownBy wx none) => drawLines_any A2 c2 d wx (hlm.pure hx) hx0 (by have := drawText_len (txsF_zero hx0).2; omega) (hT.gr (hgm.t hx))
        have hFx := fun wx (hx : wm.grownBy wx none) => drawLinesFault_any A2 c2 d wx (hlm.pure hx)
        rw [hx0] at hFx
        replace hx0 := hide hx0
        generalize mkB (drawText d) = T at *
        go_wp2_with fail
        refine hTx.mono ?_
        rintro e y1 ⟨rfl, hy1⟩
        clear hTx
        go_wp2_with fail
        refine (hFx _ hy1).mono ?_
        rintro e y2 ⟨rfl, hy2⟩
        clear hFx
        replace hy2 := hy1.t hy2
        go_wp2_with fail
        refine (hLs _ hy2).mono ?_
        rintro e wt ⟨rfl, hy3⟩
        clear hLs
        have hgt := hgm.t (hy2.t hy3)
        have hSt := hSm.pure (hy2.t hy3)
        clear hlm hSm
        have hDS := drawString_any w.heap.size _ wt hSt.2 (by omega) (hT.gr hgt) htl
        go_wp2_with fail
        refine hDS.mono ?_
        rintro e w5 ⟨u, rfl, hus, ho5⟩
        clear hDS
        have hgw5 : w.grownBy w5 none := gr_new hgt ho5.1 (Nat.le_refl _)
        have hR1 := drawRead_any u w5
        have hR2 := fun wx (hx : w5.grownBy wx none) => drawsRead_any u wx (hT.gr (hgw5.t hx))
        obtain ⟨RR, hRR⟩ : ∃ r, readD u.data.toList = r := ⟨_, rfl⟩
        rw [hRR] at hR1 hR2
        obtain ⟨x, i, ee⟩ := RR
        simp only at hR1 hR2
        clear hRR ho5 hSt
        go_wp2_with fail
        refine hR1.mono ?_
        rintro e w8 ⟨A8, c8, rfl, hl8, hg8⟩
        clear hR1
        go_wp2_with fail
        refine (hR2 _ hg8).mono ?_
        rintro e w9 ⟨A9, c9, rfl, hl9, hg9⟩
        clear hR2
        have hSP := sameDrw_any A8 c8 x A9 c9 w9 (hl8.pure hg9) hl9
        have hgw9 := hgw5.t (hg8.t hg9)
        have hPd := fun wx => flowed_any wx
        go_wp2_with fail
        refine hSP.mono ?_
        rintro e wa ⟨rfl, hga⟩
        go_wp2_with fail
        refine (hPd _).mono ?_
        rintro e wb ⟨rfl, hgb⟩
        go_wp2_with fail
        go_ret
        exact ⟨rfl, hgw9.t (hga.t hgb)⟩
      · have hTx := textNo_any A2 c2 d wm hlm hx0
        have hFx := fun wx (hx : wm.grownBy wx none) => drawLinesFault_any A2 c2 d wx (hlm.pure hx)
        obtain ⟨F, hFe⟩ : ∃ F, txsF d = F := ⟨_, rfl⟩
        rw [hFe] at hTx hFx hx0
        have hb0 : (F == 0) = false := beq_eq_false_iff_ne.2 hx0
        have hb1 : (F != 0) = true := by simp [hx0]
        have hb2 : (F != F) = false := by simp
        clear hFe
        replace hx0 := hide hx0
        go_wp2_with fail
        refine hTx.mono ?_
        rintro e y1 ⟨rfl, hy1⟩
        clear hTx
        go_wp2_with fail
        refine (hFx _ hy1).mono ?_
        rintro e wt ⟨rfl, hy2⟩
        clear hFx
        have hgt := hgm.t (hy1.t hy2)
        have hSt := hSm.pure (hy1.t hy2)
        clear hlm hSm
        have hDS := drawString_any w.heap.size _ wt hSt.2 (by omega) (hT.gr hgt) htl
        go_wp2_with fail
        refine hDS.mono ?_
        rintro e w5 ⟨u, rfl, hus, ho5⟩
        clear hDS
        have hgw5 : w.grownBy w5 none := gr_new hgt ho5.1 (Nat.le_refl _)
        have hR1 := drawRead_any u w5
        have hR2 := fun wx (hx : w5.grownBy wx none) => drawsRead_any u wx (hT.gr (hgw5.t hx))
        obtain ⟨RR, hRR⟩ : ∃ r, readD u.data.toList = r := ⟨_, rfl⟩
        rw [hRR] at hR1 hR2
        obtain ⟨x, i, ee⟩ := RR
        simp only at hR1 hR2
        clear hRR ho5 hSt
        go_wp2_with fail
        refine hR1.mono ?_
        rintro e w8 ⟨A8, c8, rfl, hl8, hg8⟩
        clear hR1
        go_wp2_with fail
        refine (hR2 _ hg8).mono ?_
        rintro e w9 ⟨A9, c9, rfl, hl9, hg9⟩
        clear hR2
        have hSP := sameDrw_any A8 c8 x A9 c9 w9 (hl8.pure hg9) hl9
        have hgw9 := hgw5.t (hg8.t hg9)
        have hPd := fun wx => flowed_any wx
        go_wp2_with fail
        refine hSP.mono ?_
        rintro e wa ⟨rfl, hga⟩
        go_wp2_with fail
        refine (hPd _).mono ?_
        rintro e wb ⟨rfl, hgb⟩
        go_wp2_with fail
        go_ret
        exact ⟨rfl, hgw9.t (hga.t hgb)⟩
    · have hdb : (D == 0) = false := beq_eq_false_iff_ne.2 hDz
      obtain rfl := hN8.out hDz
      replace hDz := hide hDz
      obtain ⟨wz, rfl⟩ : ∃ x, x = x6 := ⟨_, rfl⟩
      have hgz := hgw.t hx6
      have hlz := hq.pure hx6
      have hSz := hS0.pure hx6
      clear hp hq hS0 hC7 hC8 hN7 hN8
      have hE1 := fun wx (hx : wz.grownBy wx none) => equalInts_any A6 none c6 0 _ _ wx (hl6.pure hx) ((fun wx hx => (Sl.nil : Sl wx 0 none ([] : List Int))) wx hx)
      have hE2 := fun wx (hx : wz.grownBy wx none) => equalInts_any A7 none c7 0 _ _ wx (hl7.pure hx) ((fun wx hx => (Sl.nil : Sl wx 0 none ([] : List Int))) wx hx)
      rw [eqB_refl] at hE1 hE2
      go_wp2_with fail
      refine (hE1 _ (World.grownBy.refl _ _)).mono ?_
      rintro e z1 ⟨rfl, hz1⟩
      clear hE1
      go_wp2_with fail
      refine (hE2 _ hz1).mono ?_
      rintro e wm ⟨rfl, hz2⟩
      clear hE2
      have hgm := hgz.t (hz1.t hz2)
      have hlm := hlz.pure (hz1.t hz2)
      have hSm := hSz.pure (hz1.t hz2)
      clear hl6 hl7 hlz hSz hz1 hz2 hgz
      by_cases hx0 : txsF d = 0
      · have hTx := drawText_any A2 c2 d wm hlm hx0 (by have := drawText_len (txsF_zero hx0).2; omega) (hT.gr hgm)
        have hLs := fun wx (hx : wm.grownBy wx none) => drawLines_any A2 c2 d wx (hlm.pure hx) hx0 (by have := drawText_len (txsF_zero hx0).2; omega) (hT.gr (hgm.t hx))
        have hFx := fun wx (hx : wm.grownBy wx none) => drawLinesFault_any A2 c2 d wx (hlm.pure hx)
        rw [hx0] at hFx
        replace hx0 := hide hx0
        generalize mkB (drawText d) = T at *
        go_wp2_with fail
        refine hTx.mono ?_
        rintro e y1 ⟨rfl, hy1⟩
        clear hTx
        go_wp2_with fail
        refine (hFx _ hy1).mono ?_
        rintro e y2 ⟨rfl, hy2⟩
        clear hFx
        replace hy2 := hy1.t hy2
        go_wp2_with fail
        refine (hLs _ hy2).mono ?_
        rintro e wt ⟨rfl, hy3⟩
        clear hLs
        have hgt := hgm.t (hy2.t hy3)
        have hSt := hSm.pure (hy2.t hy3)
        clear hlm hSm
        have hDS := drawString_any w.heap.size _ wt hSt.2 (by omega) (hT.gr hgt) htl
        go_wp2_with fail
        refine hDS.mono ?_
        rintro e w5 ⟨u, rfl, hus, ho5⟩
        clear hDS
        have hgw5 : w.grownBy w5 none := gr_new hgt ho5.1 (Nat.le_refl _)
        have hR1 := drawRead_any u w5
        have hR2 := fun wx (hx : w5.grownBy wx none) => drawsRead_any u wx (hT.gr (hgw5.t hx))
        obtain ⟨RR, hRR⟩ : ∃ r, readD u.data.toList = r := ⟨_, rfl⟩
        rw [hRR] at hR1 hR2
        obtain ⟨x, i, ee⟩ := RR
        simp only at hR1 hR2
        clear hRR ho5 hSt
        go_wp2_with fail
        refine hR1.mono ?_
        rintro e w8 ⟨A8, c8, rfl, hl8, hg8⟩
        clear hR1
        go_wp2_with fail
        refine (hR2 _ hg8).mono ?_
        rintro e w9 ⟨A9, c9, rfl, hl9, hg9⟩
        clear hR2
        have hSP := sameDrw_any A8 c8 x A9 c9 w9 (hl8.pure hg9) hl9
        have hgw9 := hgw5.t (hg8.t hg9)
        have hPd := fun wx => flowed_any wx
        go_wp2_with fail
        refine hSP.mono ?_
        rintro e wa ⟨rfl, hga⟩
        go_wp2_with fail
        refine (hPd _).mono ?_
        rintro e wb ⟨rfl, hgb⟩
        go_wp2_with fail
        go_ret
        exact ⟨rfl, hgw9.t (hga.t hgb)⟩
      · have hTx := textNo_any A2 c2 d wm hlm hx0
        have hFx := fun wx (hx : wm.grownBy wx none) => drawLinesFault_any A2 c2 d wx (hlm.pure hx)
        obtain ⟨F, hFe⟩ : ∃ F, txsF d = F := ⟨_, rfl⟩
        rw [hFe] at hTx hFx hx0
        have hb0 : (F == 0) = false := beq_eq_false_iff_ne.2 hx0
        have hb1 : (F != 0) = true := by simp [hx0]
        have hb2 : (F != F) = false := by simp
        clear hFe
        replace hx0 := hide hx0
        go_wp2_with fail
        refine hTx.mono ?_
        rintro e y1 ⟨rfl, hy1⟩
        clear hTx
        go_wp2_with fail
        refine (hFx _ hy1).mono ?_
        rintro e wt ⟨rfl, hy2⟩
        clear hFx
        have hgt := hgm.t (hy1.t hy2)
        have hSt := hSm.pure (hy1.t hy2)
        clear hlm hSm
        have hDS := drawString_any w.heap.size _ wt hSt.2 (by omega) (hT.gr hgt) htl
        go_wp2_with fail
        refine hDS.mono ?_
        rintro e w5 ⟨u, rfl, hus, ho5⟩
        clear hDS
        have hgw5 : w.grownBy w5 none := gr_new hgt ho5.1 (Nat.le_refl _)
        have hR1 := drawRead_any u w5
        have hR2 := fun wx (hx : w5.grownBy wx none) => drawsRead_any u wx (hT.gr (hgw5.t hx))
        obtain ⟨RR, hRR⟩ : ∃ r, readD u.data.toList = r := ⟨_, rfl⟩
        rw [hRR] at hR1 hR2
        obtain ⟨x, i, ee⟩ := RR
        simp only at hR1 hR2
        clear hRR ho5 hSt
        go_wp2_with fail
        refine hR1.mono ?_
        rintro e w8 ⟨A8, c8, rfl, hl8, hg8⟩
        clear hR1
        go_wp2_with fail
        refine (hR2 _ hg8).mono ?_
        rintro e w9 ⟨A9, c9, rfl, hl9, hg9⟩
        clear hR2
        have hSP := sameDrw_any A8 c8 x A9 c9 w9 (hl8.pure hg9) hl9
        have hgw9 := hgw5.t (hg8.t hg9)
        have hPd := fun wx => flowed_any wx
        go_wp2_with fail
        refine hSP.mono ?_
        rintro e wa ⟨rfl, hga⟩
        go_wp2_with fail
        refine (hPd _).mono ?_
        rintro e wb ⟨rfl, hgb⟩
        go_wp2_with fail
        go_ret
        exact ⟨rfl, hgw9.t (hga.t hgb)⟩

end Go.Proofs.YtncplpbnhlodaaaGreatDoor
