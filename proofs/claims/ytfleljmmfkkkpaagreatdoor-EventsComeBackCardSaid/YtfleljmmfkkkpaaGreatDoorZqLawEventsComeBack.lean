/- Contracts of functions that this seat's laws reach, each: what one call returns and what it leaves in memory; no condition beyond each theorem's own hypotheses. -/
import Derived.Test.YtfleljmmfkkkpaaGreatDoorZqEvH
import Derived.Test.YtfleljmmfkkkpaaGreatDoorZqTabOf
import Derived.Test.YtfleljmmfkkkpaaGreatDoorZqReady
set_option linter.unusedVariables false
set_option linter.unusedSimpArgs false
namespace Go.Proofs.YtfleljmmfkkkpaaGreatDoor
open Go Go.RowKit Go.Bl

theorem mkBe_of {s : ByteArray} {l : List UInt8} (h : l = s.data.toList) : mkB l = s := by subst h; exact data_mkB s

set_option maxHeartbeats 4000000 in
set_option maxRecDepth 100000 in
theorem eventsBack_law (A : Option Addr) (n c : Nat) (L : List Int) (w : World) (hL : Sl w 0 A L) (hn : L.length = n) (hT : Tab w) :
    Calls Tryz.prog 3 #[.slice A n c] w fun e w' => e = .returned (.bool true) ∧ w.grownBy w' none := by
  have hs0 := strm_new (c := c) 25 hL hn
  have hg0 := gr_alloc (World.grownBy.refl w none) (.cells #[.slice A n c, .int .i64 0] 25)
  have hS0 := SOut.refl hs0
  have hR := rightEvents_any _ 0 _ hs0 (by omega)
  have htl := Tab.lt hT
  go_enter Tryz.func3, Tryz.ntmps3
  go_wp2_with fail
  refine hR.mono ?_
  rintro e w1 ⟨p, P1, A1, c1, rfl, hp, hp16, hpc, hF0, ho1⟩
  replace hS0 := hS0.trans ho1
  have hl := hp.mono (Nat.zero_le _)
  have hgw : w.grownBy w1 none := gr_new hg0 hS0.1 (Nat.le_refl _)
  clear ho1 hs0 hg0 hL hR hp
  have htx := evText_len (evsF_zero hF0).2
  have hX := evText_any A1 c1 p w1 hl hF0 (by omega) (hT.gr hgw)
  have hrp := readE_text hF0 (by omega)
  obtain ⟨T, hTe⟩ : ∃ T, mkB (evText p) = T := ⟨_, rfl⟩
  have hTd : T.data.toList = evText p := by rw [← hTe, mkB_data]
  rw [hTe] at hX
  have hRd := fun wx => evRead_any T wx
  rw [hTd, hrp] at hRd
  clear hTe hTd hrp htx
  replace hF0 := hide hF0
  go_wp2_with fail
  refine hX.mono ?_
  rintro e w2 ⟨rfl, hg2⟩
  clear hX
  go_wp2_with fail
  refine (hRd _).mono ?_
  rintro e w3 ⟨A3, c3, rfl, hl3, hg3⟩
  clear hRd
  have hg13 := hg2.t hg3
  have hSP := sameEv_any A3 c3 p A1 c1 w3 hl3 (hl.pure hg13)
  go_wp2_with fail
  refine hSP.mono ?_
  rintro e w4 ⟨rfl, hg4⟩
  clear hSP
  have hgw4 := hgw.t (hg13.t hg4)
  have hS4 := hS0.pure (hg13.t hg4)
  clear hl3 hl hS0
  have hES := eventString_any w.heap.size _ w4 hS4.2 (by omega) (hT.gr hgw4) htl
  go_wp2_with fail
  refine hES.mono ?_
  rintro e w5 ⟨u, rfl, hus, ho5⟩
  clear hES
  have hgw5 : w.grownBy w5 none := gr_new hgw4 ho5.1 (Nat.le_refl _)
  have hRu := evRead_any u w5
  have hback := @readE_back u.data.toList
  obtain ⟨RR, hRR⟩ : ∃ r, readE u.data.toList = r := ⟨_, rfl⟩
  rw [hRR] at hRu hback
  obtain ⟨x, i, ee⟩ := RR
  simp only at hRu hback
  clear hRR ho5 hS4
  by_cases he : ee = 0
  · subst he
    obtain ⟨hx1, hx2, hx3⟩ := hback rfl
    have hmu := mkBe_of hx2
    replace hx2 := hide hx2
    clear hback
    go_wp2_with fail
    refine hRu.mono ?_
    rintro e w6 ⟨A6, c6, rfl, hl6, hg6⟩
    clear hRu
    have hX6 := evText_any A6 c6 x w6 hl6 hx1 (by rw [hx2.out]; exact hx3) (hT.gr (hgw5.t hg6))
    rw [hmu] at hX6
    clear hmu hx1 hx3
    go_wp2_with fail
    refine hX6.mono ?_
    rintro e w7 ⟨rfl, hg7⟩
    clear hX6
    go_wp2_with fail
    refine (ready_any _).mono ?_
    rintro e w9 ⟨rfl, hg9⟩
    go_wp2_with fail
    go_ret
    exact ⟨rfl, hgw5.t (hg6.t (hg7.t hg9))⟩
  · have hb0 : (ee == 0) = false := beq_eq_false_iff_ne.2 he
    clear hback
    replace he := hide he
    go_wp2_with fail
    refine hRu.mono ?_
    rintro e w6 ⟨A6, c6, rfl, hl6, hg6⟩
    clear hRu
    go_wp2_with fail
    refine (ready_any _).mono ?_
    rintro e w9 ⟨rfl, hg9⟩
    go_wp2_with fail
    go_ret
    exact ⟨rfl, hgw5.t (hg6.t hg9)⟩

end Go.Proofs.YtfleljmmfkkkpaaGreatDoor
