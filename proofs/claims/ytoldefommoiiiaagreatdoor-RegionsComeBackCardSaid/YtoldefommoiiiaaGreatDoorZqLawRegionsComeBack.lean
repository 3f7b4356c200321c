/- Contracts of functions that this seat's laws reach, each: what one call returns and what it leaves in memory; no condition beyond each theorem's own hypotheses. -/
import Derived.Test.YtoldefommoiiiaaGreatDoorZqRegTxC
import Derived.Test.YtoldefommoiiiaaGreatDoorZqRegStr
import Derived.Test.YtoldefommoiiiaaGreatDoorZqTabOf
import Derived.Test.YtoldefommoiiiaaGreatDoorZqReady
set_option linter.unusedVariables false
set_option linter.unusedSimpArgs false
namespace Go.Proofs.YtoldefommoiiiaaGreatDoor
open Go Go.RowKit Go.Bl

theorem mkB_of {s : ByteArray} {l : List UInt8} (h : l = s.data.toList) : mkB l = s := by subst h; exact data_mkB s

set_option maxHeartbeats 4000000 in
set_option maxRecDepth 100000 in
theorem regionsBack_law (A : Option Addr) (n c : Nat) (L : List Int) (w : World) (hL : Sl w 0 A L) (hn : L.length = n) (hT : Tab w) :
    Calls Tryz.prog 4 #[.slice A n c] w fun e w' => e = .returned (.bool true) ∧ w.grownBy w' none := by
  have hs0 := strm_new (c := c) 25 hL hn
  have hg0 := gr_alloc (World.grownBy.refl w none) (.cells #[.slice A n c, .int .i64 0] 25)
  have hS0 := SOut.refl hs0
  have hR := rightRegion_any _ 0 _ hs0 (by omega)
  have htl := Tab.lt hT
  go_enter Tryz.func4, Tryz.ntmps4
  go_wp2_with fail
  refine hR.mono ?_
  rintro e w1 ⟨A1, c1, p, rfl, hp, hpc, hpF, ho1⟩
  replace hS0 := hS0.trans ho1
  have hl := hp.mono (Nat.zero_le _)
  have hgw : w.grownBy w1 none := gr_new hg0 hS0.1 (Nat.le_refl _)
  clear ho1 hs0 hg0 hL hR hp
  have htx := regText_len hpF
  replace hpc := hide hpc
  have hX := regText_any A1 c1 p w1 hl hpF (hT.gr hgw)
  have hrp := readR_text hpF (by omega)
  obtain ⟨T, hTe⟩ : ∃ T, mkB (regText p) = T := ⟨_, rfl⟩
  have hTd : T.data.toList = regText p := by rw [← hTe, mkB_data]
  rw [hTe] at hX
  have hRd := fun wx => regRead_any T wx
  rw [hTd, hrp] at hRd
  clear hTe hTd hrp htx hpF
  go_wp2_with fail
  refine hX.mono ?_
  rintro e w2 ⟨rfl, hg2⟩
  clear hX
  go_wp2_with fail
  refine (hRd _).mono ?_
  rintro e w3 ⟨A3, c3, rfl, hl3, hg3⟩
  clear hRd
  have hgw3 := hgw.t (hg2.t hg3)
  have hSP := sameRegion_same A3 c3 p A1 c1 w3 hl3 (hl.pure (hg2.t hg3))
  go_wp2_with fail
  refine hSP.mono ?_
  rintro e w4 ⟨rfl, hg4⟩
  clear hSP
  have hgw4 := hgw3.t hg4
  have hS4 := hS0.pure ((hg2.t hg3).t hg4)
  clear hl3 hl hS0
  have hPS := regionString_any w.heap.size _ w4 hS4.2 (by omega) (hT.gr hgw4) htl
  go_wp2_with fail
  refine hPS.mono ?_
  rintro e w5 ⟨u, rfl, hus, ho5⟩
  clear hPS
  have hgw5 : w.grownBy w5 none := gr_new hgw4 ho5.1 (Nat.le_refl _)
  have hRu := regRead_any u w5
  have hback := @readR_back u.data.toList
  obtain ⟨RR, hRR⟩ : ∃ r, readR u.data.toList = r := ⟨_, rfl⟩
  rw [hRR] at hRu hback
  obtain ⟨x, i, ee⟩ := RR
  simp only at hRu hback
  clear hRR ho5 hS4
  by_cases he : ee = 0
  · subst he
    obtain ⟨hx1, hx2, hx3⟩ := hback rfl
    have hmu := mkB_of hx2
    replace hx2 := hide hx2
    clear hback
    go_wp2_with fail
    refine hRu.mono ?_
    rintro e w6 ⟨A6, c6, rfl, hl6, hg6⟩
    clear hRu
    have hX6 := regText_any A6 c6 x w6 hl6 hx1 (hT.gr (hgw5.t hg6))
    rw [hmu] at hX6
    clear hmu hx1 hx3
    go_wp2_with fail
    refine hX6.mono ?_
    rintro e w7 ⟨rfl, hg7⟩
    clear hX6
    go_wp2_with fail
    refine (ready_any _).mono ?_
    rintro e w9 ⟨rfl, hg9⟩
    go_wp2_with fail
    go_ret
    exact ⟨rfl, hgw5.t (hg6.t (hg7.t hg9))⟩
  · have hb0 : (ee == 0) = false := beq_eq_false_iff_ne.2 he
    clear hback
    replace he := hide he
    go_wp2_with fail
    refine hRu.mono ?_
    rintro e w6 ⟨A6, c6, rfl, hl6, hg6⟩
    clear hRu
    go_wp2_with fail
    refine (ready_any _).mono ?_
    rintro e w9 ⟨rfl, hg9⟩
    go_wp2_with fail
    go_ret
    exact ⟨rfl, hgw5.t (hg6.t hg9)⟩

end Go.Proofs.YtoldefommoiiiaaGreatDoor
