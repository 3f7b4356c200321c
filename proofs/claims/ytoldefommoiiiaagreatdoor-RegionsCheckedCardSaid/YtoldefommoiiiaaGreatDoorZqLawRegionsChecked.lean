/- Contracts of functions that this seat's laws reach, each: what one call returns and what it leaves in memory; no condition beyond each theorem's own hypotheses. -/
import Derived.Test.YtoldefommoiiiaaGreatDoorZqRegTxF
import Derived.Test.YtoldefommoiiiaaGreatDoorZqRegStr
import Derived.Test.YtoldefommoiiiaaGreatDoorZqTabOf
import Derived.Test.YtoldefommoiiiaaGreatDoorZqRegH
set_option linter.unusedVariables false
set_option linter.unusedSimpArgs false
namespace Go.Proofs.YtoldefommoiiiaaGreatDoor
open Go Go.RowKit Go.Bl

def sqR : List (List Pt) := [[⟨0, 0⟩, ⟨4, 0⟩, ⟨4, 4⟩, ⟨0, 4⟩]]

theorem sqR_reg : regF sqR = 0 := by decide

theorem sqR_area : areaT sqR = 32 := by
  unfold areaT
  rw [if_pos sqR_reg]
  decide

set_option maxHeartbeats 800000 in
theorem regioned_any (w : World) : Calls Tryz.prog 17 #[] w fun e w' => e = .returned (.bool true) ∧ w.grownBy w' none := by
  have hSq : ∀ w, Calls Tryz.prog 59 #[] w fun e w' => ∃ A, e = .returned (.slice A 4 4) ∧ Sl w' 0 A ([⟨0, 0⟩, ⟨4, 0⟩, ⟨4, 4⟩, ⟨0, 4⟩] : List Pt) ∧ w.grownBy w' none := fun w => by
    go_enter Tryz.func59, Tryz.ntmps59
    go_wp2_with fail
    go_ret
    exact ⟨_, rfl, sl_lit w 0 [.int .i64 0, .int .i64 0, .int .i64 4, .int .i64 0, .int .i64 4, .int .i64 4, .int .i64 0, .int .i64 4] _ _ (Nat.zero_le _) (by simp [maxLen]) ⟨_, _, rfl, rfl, _, _, rfl, rfl, _, _, rfl, rfl, _, [], rfl, rfl, rfl⟩, gr_alloc (World.grownBy.refl _ _) _⟩
  go_enter Tryz.func17, Tryz.ntmps17
  go_wp2_with fail
  refine (hSq _).mono ?_
  rintro e w1 ⟨A1, rfl, hs1, hg1⟩
  clear hSq
  obtain ⟨W4, hW4⟩ : ∃ x, x = w1.alloc (.cells #[.slice A1 4 4] 29) := ⟨_, rfl⟩
  have hg4 : w1.grownBy W4 none := by rw [hW4]; exact gr_alloc (World.grownBy.refl _ _) _
  have hs4 : Sl W4 0 (some ⟨w1.heap.size, 0, none⟩) sqR := by
    rw [hW4]
    exact sl_lit w1 0 [.slice A1 4 4] _ _ (Nat.zero_le _) (by simp [maxLen, sqR]) ⟨_, [], rfl, ⟨_, 4, rfl, Nat.le_refl _, by rw [← hW4]; exact hs1.pure hg4⟩, rfl⟩
  have hA := area_any (some ⟨w1.heap.size, 0, none⟩) 1 sqR W4 hs4 (by decide)
  rw [sqR_area, sqR_reg] at hA
  have hgw := hg1.t hg4
  clear hs1 hs4 hg1 hg4
  go_wp2_with fail
  rw [← hW4]
  clear hW4
  refine hA.mono ?_
  rintro e w5 ⟨rfl, hg5⟩
  clear hA
  go_wp2_with fail
  go_ret
  exact ⟨rfl, hgw.t hg5⟩

set_option maxHeartbeats 8000000 in
set_option maxRecDepth 100000 in
theorem regionsChecked_law (A : Option Addr) (n c : Nat) (L : List Int) (w : World) (hL : Sl w 0 A L) (hn : L.length = n) (hT : Tab w) :
    Calls Tryz.prog 3 #[.slice A n c] w fun e w' => e = .returned (.bool true) ∧ w.grownBy w' none := by
  have hs0 := strm_new (c := c) 25 hL hn
  have hg0 := gr_alloc (World.grownBy.refl w none) (.cells #[.slice A n c, .int .i64 0] 25)
  have hS0 := SOut.refl hs0
  have hR := aRegion_any _ 0 _ hs0 (by omega)
  have htl := Tab.lt hT
  go_enter Tryz.func3, Tryz.ntmps3
  go_wp2_with fail
  refine hR.mono ?_
  rintro e w0 ⟨A1, c1, p, rfl, hO, hpc, hp3, hp6, ho0⟩
  have hRg := aRing_any _ _ w0 ho0.2 (by omega)
  go_wp2_with fail
  refine hRg.mono ?_
  rintro e w1 ⟨gr, cr, r, rfl, hr, hrc, hr6, hgr, ho1⟩
  clear hRg hR
  have hl := (hO.s ho1 (by simp)).sl.mono (Nat.zero_le _)
  have hrl := hr.mono (Nat.zero_le _)
  replace hS0 := (hS0.trans ho0).trans ho1
  have hgw : w.grownBy w1 none := gr_new hg0 hS0.1 (Nat.le_refl _)
  have hfl : (flatK p p.length).length ≤ 1000000 := Nat.le_trans (flat_small hp6) (by omega)
  clear ho1 ho0 hs0 hg0 hL hO hr hgr
  have hF1 := regionFault_any A1 c1 p w1 hl hfl hpc
  have hF2 := fun wx (hx : w1.grownBy wx none) => checkRegion_any A1 c1 p wx (hl.pure hx) hfl
  have hQ1 := fun wx (hx : w1.grownBy wx none) => checkRing_any (some ⟨gr, 0, none⟩) cr r wx (hrl.pure hx)
  have hQ2 := fun wx (hx : w1.grownBy wx none) => ringFaultRef_any (some ⟨gr, 0, none⟩) cr r wx (hrl.pure hx) hrc
  rw [← ringF_eq] at hQ2
  obtain ⟨G, hG⟩ : ∃ G, ringF r = G := ⟨_, rfl⟩
  rw [hG] at hQ1 hQ2
  have hbG : (G != G) = false := by simp
  clear hG
  replace hp6 := hide hp6
  by_cases hF0 : regF p = 0
  · have hTx := fun wx (hx : w1.grownBy wx none) => regText_any A1 c1 p wx (hl.pure hx) hF0 (hT.gr (hgw.t hx))
    have hPl := fun wx (hx : w1.grownBy wx none) => regLines_any A1 c1 p wx (hl.pure hx) hF0 (hT.gr (hgw.t hx))
    rw [hF0] at hF1 hF2
    replace hF0 := hide hF0
    replace hfl := hide hfl
    generalize mkB (regText p) = T at *
    go_wp2_with fail
    refine hF1.mono ?_
    rintro e w2 ⟨rfl, hg2⟩
    clear hF1
    go_wp2_with fail
    refine (hQ1 _ hg2).mono ?_
    rintro e wq1 ⟨rfl, hgq1⟩
    clear hQ1
    go_wp2_with fail
    refine (hQ2 _ (hg2.t hgq1)).mono ?_
    rintro e wq2 ⟨rfl, hgq2⟩
    clear hQ2
    replace hg2 := hg2.t (hgq1.t hgq2)
    go_wp2_with fail
    refine (hF2 _ hg2).mono ?_
    rintro e w3 ⟨rfl, hg3⟩
    replace hg3 := hg2.t hg3
    clear hF2
    go_wp2_with fail
    refine (hTx _ hg3).mono ?_
    rintro e w5 ⟨rfl, hg5⟩
    clear hTx
    replace hg5 := hg3.t hg5
    go_wp2_with fail
    refine (hPl _ hg5).mono ?_
    rintro e w6 ⟨rfl, hg6⟩
    clear hPl
    have hgw6 := hgw.t (hg5.t hg6)
    have hS6 := hS0.pure (hg5.t hg6)
    clear hl hS0 hrl
    have hPS := regionString_any w.heap.size _ w6 hS6.2 (by omega) (hT.gr hgw6) htl
    go_wp2_with fail
    refine hPS.mono ?_
    rintro e w7 ⟨u, rfl, hus, ho7⟩
    clear hPS
    have hgw7 : w.grownBy w7 none := gr_new hgw6 ho7.1 (Nat.le_refl _)
    have hR1 := regRead_any u w7
    have hR2 := fun wx (hx : w7.grownBy wx none) => regReadRef_any u wx (hT.gr (hgw7.t hx))
    obtain ⟨RR, hRR⟩ : ∃ r, readR u.data.toList = r := ⟨_, rfl⟩
    rw [hRR] at hR1 hR2
    obtain ⟨x, i, ee⟩ := RR
    simp only at hR1 hR2
    clear hRR ho7 hS6
    go_wp2_with fail
    refine hR1.mono ?_
    rintro e w8 ⟨A8, c8, rfl, hl8, hg8⟩
    clear hR1
    go_wp2_with fail
    refine (hR2 _ hg8).mono ?_
    rintro e w9 ⟨A9, c9, rfl, hl9, hg9⟩
    clear hR2
    have hSP := sameRegion_same A8 c8 x A9 c9 w9 (hl8.pure hg9) hl9
    have hgw9 := hgw7.t (hg8.t hg9)
    have hPd := fun wx => regioned_any wx
    go_wp2_with fail
    refine hSP.mono ?_
    rintro e wa ⟨rfl, hga⟩
    go_wp2_with fail
    refine (hPd _).mono ?_
    rintro e wb ⟨rfl, hgb⟩
    go_wp2_with fail
    go_ret
    exact ⟨rfl, hgw9.t (hga.t hgb)⟩
  · have hTx := fun wx (hx : w1.grownBy wx none) => regText_bad A1 c1 p wx (hl.pure hx) hfl hF0
    obtain ⟨F, hF⟩ : ∃ F, regF p = F := ⟨_, rfl⟩
    rw [hF] at hF1 hF2 hTx hF0
    have hb0 : (F == 0) = false := beq_eq_false_iff_ne.2 hF0
    have hb1 : (F != F) = false := by simp
    have hb2 : (F != 0) = true := by simp [hF0]
    replace hF0 := hide hF0
    replace hfl := hide hfl
    clear hF
    go_wp2_with fail
    refine hF1.mono ?_
    rintro e w2 ⟨rfl, hg2⟩
    clear hF1
    go_wp2_with fail
    refine (hQ1 _ hg2).mono ?_
    rintro e wq1 ⟨rfl, hgq1⟩
    clear hQ1
    go_wp2_with fail
    refine (hQ2 _ (hg2.t hgq1)).mono ?_
    rintro e wq2 ⟨rfl, hgq2⟩
    clear hQ2
    replace hg2 := hg2.t (hgq1.t hgq2)
    go_wp2_with fail
    refine (hF2 _ hg2).mono ?_
    rintro e w3 ⟨rfl, hg3⟩
    replace hg3 := hg2.t hg3
    clear hF2
    go_wp2_with fail
    refine (hTx _ hg3).mono ?_
    rintro e w6 ⟨rfl, hg6⟩
    clear hTx
    have hgw6 := hgw.t (hg3.t hg6)
    have hS6 := hS0.pure (hg3.t hg6)
    clear hl hS0 hrl
    have hPS := regionString_any w.heap.size _ w6 hS6.2 (by omega) (hT.gr hgw6) htl
    go_wp2_with fail
    refine hPS.mono ?_
    rintro e w7 ⟨u, rfl, hus, ho7⟩
    clear hPS
    have hgw7 : w.grownBy w7 none := gr_new hgw6 ho7.1 (Nat.le_refl _)
    have hR1 := regRead_any u w7
    have hR2 := fun wx (hx : w7.grownBy wx none) => regReadRef_any u wx (hT.gr (hgw7.t hx))
    obtain ⟨RR, hRR⟩ : ∃ r, readR u.data.toList = r := ⟨_, rfl⟩
    rw [hRR] at hR1 hR2
    obtain ⟨x, i, ee⟩ := RR
    simp only at hR1 hR2
    clear hRR ho7 hS6
    go_wp2_with fail
    refine hR1.mono ?_
    rintro e w8 ⟨A8, c8, rfl, hl8, hg8⟩
    clear hR1
    go_wp2_with fail
    refine (hR2 _ hg8).mono ?_
    rintro e w9 ⟨A9, c9, rfl, hl9, hg9⟩
    clear hR2
    have hSP := sameRegion_same A8 c8 x A9 c9 w9 (hl8.pure hg9) hl9
    have hgw9 := hgw7.t (hg8.t hg9)
    have hPd := fun wx => regioned_any wx
    go_wp2_with fail
    refine hSP.mono ?_
    rintro e wa ⟨rfl, hga⟩
    go_wp2_with fail
    refine (hPd _).mono ?_
    rintro e wb ⟨rfl, hgb⟩
    go_wp2_with fail
    go_ret
    exact ⟨rfl, hgw9.t (hga.t hgb)⟩

end Go.Proofs.YtoldefommoiiiaaGreatDoor
