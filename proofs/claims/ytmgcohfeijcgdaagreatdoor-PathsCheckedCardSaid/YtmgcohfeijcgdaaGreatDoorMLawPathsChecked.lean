/- Contracts of functions that this seat's laws reach, each: what one call returns and what it leaves in memory; no condition beyond each theorem's own hypotheses. -/
import Derived.Test.YtmgcohfeijcgdaaGreatDoorMPathTxF
import Derived.Test.YtmgcohfeijcgdaaGreatDoorMPathStr
import Derived.Test.YtmgcohfeijcgdaaGreatDoorMTabOf
import Derived.Test.YtmgcohfeijcgdaaGreatDoorMChainC
import Derived.Test.YtmgcohfeijcgdaaGreatDoorMLongR
import Derived.Test.YtmgcohfeijcgdaaGreatDoorMFlowB
set_option linter.unusedVariables false
set_option linter.unusedSimpArgs false
namespace Go.Proofs.YtmgcohfeijcgdaaGreatDoor
open Go Go.RowKit Go.Bl

set_option maxHeartbeats 4000000 in
set_option maxRecDepth 100000 in
theorem pathsChecked_law (A : Option Addr) (n c : Nat) (L : List Int) (w : World) (hL : Sl w 0 A L) (hn : L.length = n) (hT : Tab w) :
    Calls Tryz.prog 3 #[.slice A n c] w fun e w' => e = .returned (.bool true) ∧ w.grownBy w' none := by
  have hs0 := strm_new (c := c) 25 hL hn
  have hg0 := gr_alloc (World.grownBy.refl w none) (.cells #[.slice A n c, .int .i64 0] 25)
  have hS0 := SOut.refl hs0
  have hR := pathList_any _ 0 5 _ hs0 (by omega) (by omega)
  have htl := Tab.lt hT
  go_enter Tryz.func3, Tryz.ntmps3
  go_wp2_with fail
  refine hR.mono ?_
  rintro e w1 ⟨p, A1, c1, rfl, hp, hp5, hp4, ho1⟩
  replace hS0 := hS0.trans ho1
  have hl := hp.mono (Nat.zero_le _)
  have hgw : w.grownBy w1 none := gr_new hg0 hS0.1 (Nat.le_refl _)
  clear ho1 hs0 hg0 hL hR hp
  replace hp4 := hide hp4
  have hF1 := pathsFaultRef_any A1 c1 p w1 hl
  have hF2 := fun wx (hx : w1.grownBy wx none) => checkPaths_any A1 c1 p wx (hl.pure hx)
  have hLg := fun wx (hx : w1.grownBy wx none) => long_any A1 c1 p wx (hl.pure hx)
  by_cases hF0 : pathsF p = 0
  · have hTx := fun wx (hx : w1.grownBy wx none) => pathText_any A1 c1 p wx (hl.pure hx) hF0 (by have := text_small hF0 hp5 hp4.out; omega) (hT.gr (hgw.t hx))
    have hLo := fun wx (hx : w1.grownBy wx none) => longOf_any A1 c1 p wx (hl.pure hx) hF0
    have hPl := fun wx (hx : w1.grownBy wx none) => pathLines_any A1 c1 p wx (hl.pure hx) hF0 (by have := text_small hF0 hp5 hp4.out; omega) (hT.gr (hgw.t hx))
    have e1 : longF p = longs p := by unfold longF; rw [if_pos hF0]
    have e2 : longS p = longSum p := by unfold longS; rw [if_pos hF0]
    rw [e1, e2] at hLg
    rw [hF0] at hF1 hF2 hLg
    replace hF0 := hide hF0
    clear e1 e2
    generalize mkB (pathText p) = T at *
    generalize longSum p = sm at *
    go_wp2_with fail
    refine hF1.mono ?_
    rintro e w2 ⟨rfl, hg2⟩
    clear hF1
    go_wp2_with fail
    refine (hF2 _ hg2).mono ?_
    rintro e w3 ⟨rfl, hg3⟩
    replace hg3 := hg2.t hg3
    clear hF2
    go_wp2_with fail
    refine (hLg _ hg3).mono ?_
    rintro e w4 ⟨A4, c4, rfl, hO4, hg4⟩
    replace hg4 := hg3.t hg4
    clear hLg
    go_wp2_with fail
    refine (hTx _ hg4).mono ?_
    rintro e w5 ⟨rfl, hg5⟩
    clear hTx
    have hO5 := hO4.pure hg5
    replace hg5 := hg4.t hg5
    go_wp2_with fail
    refine (hLo _ hg5).mono ?_
    rintro e w5b ⟨A5, c5, rfl, hO5b, hg5b⟩
    clear hLo
    have hO5' := hO5.pure hg5b
    replace hg5b := hg5.t hg5b
    go_wp2_with fail
    refine (hPl _ hg5b).mono ?_
    rintro e w5c ⟨rfl, hg5c⟩
    clear hPl
    have s1 := (hO5'.pure hg5c).sl.mono (Nat.zero_le _)
    have s2 := (hO5b.pure hg5c).sl.mono (Nat.zero_le _)
    replace hg5c := hg5b.t hg5c
    have hEq := equalInts_any A4 A5 c4 c5 _ _ _ s1 s2
    rw [eqB_refl] at hEq
    generalize longs p = lp at *
    clear hO4 hO5 hO5b hO5' s1 s2
    go_wp2_with fail
    refine hEq.mono ?_
    rintro e w6 ⟨rfl, hg6⟩
    clear hEq
    have hgw6 := hgw.t (hg5c.t hg6)
    have hS6 := hS0.pure (hg5c.t hg6)
    clear hl hS0
    have hPS := pathString_any w.heap.size _ w6 hS6.2 (by omega) (hT.gr hgw6) htl
    go_wp2_with fail
    refine hPS.mono ?_
    rintro e w7 ⟨u, rfl, hus, ho7⟩
    clear hPS
    have hgw7 : w.grownBy w7 none := gr_new hgw6 ho7.1 (Nat.le_refl _)
    have hR1 := pathRead_any u w7
    have hR2 := fun wx (hx : w7.grownBy wx none) => pathsRead_any u wx (hT.gr (hgw7.t hx))
    obtain ⟨RR, hRR⟩ : ∃ r, readP u.data.toList = r := ⟨_, rfl⟩
    rw [hRR] at hR1 hR2
    obtain ⟨x, i, ee⟩ := RR
    simp only at hR1 hR2
    clear hRR ho7 hS6
    go_wp2_with fail
    refine hR1.mono ?_
    rintro e w8 ⟨A8, c8, rfl, hl8, hg8⟩
    clear hR1
    go_wp2_with fail
    refine (hR2 _ hg8).mono ?_
    rintro e w9 ⟨A9, c9, rfl, hl9, hg9⟩
    clear hR2
    have hSP := samePaths_same A8 c8 x A9 c9 w9 (hl8.pure hg9) hl9
    have hgw9 := hgw7.t (hg8.t hg9)
    have hPd := fun wx => pathed_any wx
    go_wp2_with fail
    refine hSP.mono ?_
    rintro e wa ⟨rfl, hga⟩
    go_wp2_with fail
    refine (hPd _).mono ?_
    rintro e wb ⟨rfl, hgb⟩
    go_wp2_with fail
    go_ret
    exact ⟨rfl, hgw9.t (hga.t hgb)⟩
  · have hTx := fun wx (hx : w1.grownBy wx none) => pathText_bad A1 c1 p wx (hl.pure hx) hF0
    have e1 : longF p = [] := by unfold longF; rw [if_neg hF0]
    have e2 : longS p = 0 := by unfold longS; rw [if_neg hF0]
    rw [e1, e2] at hLg
    obtain ⟨F, hF⟩ : ∃ F, pathsF p = F := ⟨_, rfl⟩
    rw [hF] at hF1 hF2 hLg hTx hF0
    have hb0 : (F == 0) = false := beq_eq_false_iff_ne.2 hF0
    have hb1 : (F != F) = false := by simp
    replace hF0 := hide hF0
    clear e1 e2 hF
    go_wp2_with fail
    refine hF1.mono ?_
    rintro e w2 ⟨rfl, hg2⟩
    clear hF1
    go_wp2_with fail
    refine (hF2 _ hg2).mono ?_
    rintro e w3 ⟨rfl, hg3⟩
    replace hg3 := hg2.t hg3
    clear hF2
    go_wp2_with fail
    refine (hLg _ hg3).mono ?_
    rintro e w4 ⟨A4, c4, rfl, hO4, hg4⟩
    replace hg4 := hg3.t hg4
    clear hLg
    go_wp2_with fail
    refine (hTx _ hg4).mono ?_
    rintro e w5 ⟨rfl, hg5⟩
    clear hTx
    have s1 := (hO4.pure hg5).sl.mono (Nat.zero_le _)
    replace hg5 := hg4.t hg5
    have hEq := equalInts_any A4 none c4 0 _ ([] : List Int) _ s1 Sl.nil
    rw [eqB_refl] at hEq
    clear hO4 s1
    go_wp2_with fail
    refine hEq.mono ?_
    rintro e w6 ⟨rfl, hg6⟩
    clear hEq
    have hgw6 := hgw.t (hg5.t hg6)
    have hS6 := hS0.pure (hg5.t hg6)
    clear hl hS0
    have hPS := pathString_any w.heap.size _ w6 hS6.2 (by omega) (hT.gr hgw6) htl
    go_wp2_with fail
    refine hPS.mono ?_
    rintro e w7 ⟨u, rfl, hus, ho7⟩
    clear hPS
    have hgw7 : w.grownBy w7 none := gr_new hgw6 ho7.1 (Nat.le_refl _)
    have hR1 := pathRead_any u w7
    have hR2 := fun wx (hx : w7.grownBy wx none) => pathsRead_any u wx (hT.gr (hgw7.t hx))
    obtain ⟨RR, hRR⟩ : ∃ r, readP u.data.toList = r := ⟨_, rfl⟩
    rw [hRR] at hR1 hR2
    obtain ⟨x, i, ee⟩ := RR
    simp only at hR1 hR2
    clear hRR ho7 hS6
    go_wp2_with fail
    refine hR1.mono ?_
    rintro e w8 ⟨A8, c8, rfl, hl8, hg8⟩
    clear hR1
    go_wp2_with fail
    refine (hR2 _ hg8).mono ?_
    rintro e w9 ⟨A9, c9, rfl, hl9, hg9⟩
    clear hR2
    have hSP := samePaths_same A8 c8 x A9 c9 w9 (hl8.pure hg9) hl9
    have hgw9 := hgw7.t (hg8.t hg9)
    have hPd := fun wx => pathed_any wx
    go_wp2_with fail
    refine hSP.mono ?_
    rintro e wa ⟨rfl, hga⟩
    go_wp2_with fail
    refine (hPd _).mono ?_
    rintro e wb ⟨rfl, hgb⟩
    go_wp2_with fail
    go_ret
    exact ⟨rfl, hgw9.t (hga.t hgb)⟩

end Go.Proofs.YtmgcohfeijcgdaaGreatDoor
