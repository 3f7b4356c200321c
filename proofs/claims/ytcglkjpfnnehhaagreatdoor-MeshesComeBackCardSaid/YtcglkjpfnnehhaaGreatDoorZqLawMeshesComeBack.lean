/- Contracts of functions that this seat's laws reach, each: what one call returns and what it leaves in memory; no condition beyond each theorem's own hypotheses. -/
import Derived.Test.YtcglkjpfnnehhaaGreatDoorZqMTextE
import Derived.Test.YtcglkjpfnnehhaaGreatDoorZqMeshStr
import Derived.Test.YtcglkjpfnnehhaaGreatDoorZqMeshBA
import Derived.Test.YtcglkjpfnnehhaaGreatDoorZqTabOf
import Derived.Test.YtcglkjpfnnehhaaGreatDoorZqReady
set_option linter.unusedVariables false
set_option linter.unusedSimpArgs false
namespace Go.Proofs.YtcglkjpfnnehhaaGreatDoor
open Go Go.RowKit Go.Bl

theorem mkB_of {s : ByteArray} {l : List UInt8} (h : l = s.data.toList) : mkB l = s := by subst h; exact data_mkB s

set_option maxHeartbeats 4000000 in
set_option maxRecDepth 100000 in
theorem meshesBack_law (A : Option Addr) (n c : Nat) (L : List Int) (w : World) (hL : Sl w 0 A L) (hn : L.length = n) (hT : Tab w) :
    Calls Tryz.prog 4 #[.slice A n c] w fun e w' => e = .returned (.bool true) ∧ w.grownBy w' none := by
  have hs0 := strm_new (c := c) 25 hL hn
  have hg0 := gr_alloc (World.grownBy.refl w none) (.cells #[.slice A n c, .int .i64 0] 25)
  have hS0 := SOut.refl hs0
  have hR := rightMesh_any _ 0 _ hs0 (by omega)
  have htl := Tab.lt hT
  go_enter Tryz.func4, Tryz.ntmps4
  go_wp2_with fail
  refine hR.mono ?_
  rintro e w1 ⟨A1, c1, vs, B1, d1, fs, rfl, hv0, hf0, ho1, hok, hvl, hfl⟩
  replace hS0 := hS0.trans ho1
  have hv := hv0.mono (Nat.zero_le _)
  have hf := hf0.mono (Nat.zero_le _)
  have hgw : w.grownBy w1 none := gr_new hg0 hS0.1 (Nat.le_refl _)
  clear ho1 hs0 hg0 hL hR hv0 hf0 hvl hfl
  have hmk := meshF_ok0 hok
  have htx := meshText_len hmk
  have hrp := readM_text hok (by omega)
  clear hmk
  go_upto_region 3 with fail
  obtain ⟨w4, hw4⟩ : ∃ x, x = (w1).alloc (.cells [.slice A1 vs.length c1, .slice B1 fs.length d1].toArray 29) := ⟨_, rfl⟩
  have hg4 : (w1).grownBy w4 none := by rw [hw4]; exact gr_alloc (World.grownBy.refl _ _) _
  have hb4 : Box w4 (w1).heap.size 29 [.slice A1 vs.length c1, .slice B1 fs.length d1] := by rw [hw4]; exact Box.new _ _ _
  have hxs4 := hb4.lt
  rw [← hw4]
  clear hw4
  obtain ⟨x4, hx4⟩ : ∃ x, x = (w1).heap.size := ⟨_, rfl⟩
  rw [← hx4] at hb4 hxs4 ⊢
  have hxl4 : (w1).heap.size ≤ x4 := by omega
  clear hx4
  have hv4 := hv.pure hg4
  have hf4 := hf.pure hg4
  have hgw4 := hgw.t hg4
  have hS4 := hS0.pure hg4
  clear hv hf hgw hS0 hg4
  have hX := meshText_any A1 c1 vs B1 d1 fs w4 hv4 hf4 hok (hT.gr hgw4)
  obtain ⟨T, hTe⟩ : ∃ T, mkB (meshText ⟨vs, fs⟩) = T := ⟨_, rfl⟩
  have hTd : T.data.toList = meshText ⟨vs, fs⟩ := by rw [← hTe, mkB_data]
  rw [hTe] at hX
  have hRd := fun wx => meshRead_any T wx
  rw [hTd, hrp] at hRd
  clear hTe hTd hrp htx hok
  obtain ⟨p0, _⟩ := hb4.c 0 rfl
  obtain ⟨p1, _⟩ := hb4.c 1 rfl
  go_wp2_with fail
  refine hX.mono ?_
  rintro e w2 ⟨rfl, hg2⟩
  clear hX
  go_wp2_with fail
  refine (hRd _).mono ?_
  rintro e w3 ⟨A3, c3, B3, d3, rfl, hv3, hf3, hg3⟩
  clear hRd p0 p1
  go_upto_region 5 with fail
  obtain ⟨w7, hw7⟩ : ∃ x, x = (w3).alloc (.cells [.slice A3 vs.length c3, .slice B3 fs.length d3].toArray 29) := ⟨_, rfl⟩
  have hg7 : (w3).grownBy w7 none := by rw [hw7]; exact gr_alloc (World.grownBy.refl _ _) _
  have hb7 : Box w7 (w3).heap.size 29 [.slice A3 vs.length c3, .slice B3 fs.length d3] := by rw [hw7]; exact Box.new _ _ _
  have hxs7 := hb7.lt
  rw [← hw7]
  clear hw7
  obtain ⟨x7, hx7⟩ : ∃ x, x = (w3).heap.size := ⟨_, rfl⟩
  rw [← hx7] at hb7 hxs7 ⊢
  have hxl7 : (w3).heap.size ≤ x7 := by omega
  clear hx7
  have hg47 := hg2.t (hg3.t hg7)
  have hSP := sameMesh_any A3 c3 vs B3 d3 fs A1 c1 B1 d1 w7 (hv3.pure hg7) (hf3.pure hg7) (hv4.pure hg47) (hf4.pure hg47)
  have hb47 := hb4.pure hg47
  have hgw7 := hgw4.t hg47
  have hS7 := hS4.pure hg47
  obtain ⟨p0, _⟩ := hb47.c 0 rfl
  obtain ⟨p1, _⟩ := hb47.c 1 rfl
  obtain ⟨q0, _⟩ := hb7.c 0 rfl
  obtain ⟨q1, _⟩ := hb7.c 1 rfl
  clear hg2 hg3 hg7 hg47 hv3 hf3 hv4 hf4 hgw4 hS4
  go_wp2_with fail
  refine hSP.mono ?_
  rintro e w8 ⟨rfl, hg8⟩
  clear hSP p0 p1 q0 q1
  have hgw8 := hgw7.t hg8
  have hS8 := hS7.pure hg8
  have hPS := meshString_any w.heap.size _ w8 hS8.2 (by omega) (hT.gr hgw8) htl
  go_wp2_with fail
  refine hPS.mono ?_
  rintro e w5 ⟨u, rfl, hus, ho5⟩
  clear hPS
  have hgw5 : w.grownBy w5 none := gr_new hgw8 ho5.1 (Nat.le_refl _)
  have hRu := meshRead_any u w5
  have hback := @readM_back u.data.toList
  obtain ⟨RR, hRR⟩ : ∃ r, readM u.data.toList = r := ⟨_, rfl⟩
  rw [hRR] at hRu hback
  obtain ⟨⟨xv, xf⟩, i, ee⟩ := RR
  simp only at hRu hback
  clear hRR ho5 hS8 hb47 hb7 hgw7 hS7 hgw8
  by_cases he : ee = 0
  · subst he
    obtain ⟨hx1, hx2, hx3⟩ := hback rfl
    have hmu := mkB_of hx2
    clear hback hx2
    go_wp2_with fail
    refine hRu.mono ?_
    rintro e w6 ⟨A6, c6, B6, d6, rfl, hv6, hf6, hg6⟩
    clear hRu
    go_upto_region 9 with fail
    obtain ⟨w11, hw11⟩ : ∃ x, x = (w6).alloc (.cells [.slice A6 xv.length c6, .slice B6 xf.length d6].toArray 29) := ⟨_, rfl⟩
    have hg11 : (w6).grownBy w11 none := by rw [hw11]; exact gr_alloc (World.grownBy.refl _ _) _
    have hb11 : Box w11 (w6).heap.size 29 [.slice A6 xv.length c6, .slice B6 xf.length d6] := by rw [hw11]; exact Box.new _ _ _
    have hxs11 := hb11.lt
    rw [← hw11]
    clear hw11
    obtain ⟨x11, hx11⟩ : ∃ x, x = (w6).heap.size := ⟨_, rfl⟩
    rw [← hx11] at hb11 hxs11 ⊢
    have hxl11 : (w6).heap.size ≤ x11 := by omega
    clear hx11
    have hgw11 := hgw5.t (hg6.t hg11)
    have hX6 := meshText_any A6 c6 xv B6 d6 xf w11 (hv6.pure hg11) (hf6.pure hg11) hx1 (hT.gr hgw11)
    rw [hmu] at hX6
    obtain ⟨p0, _⟩ := hb11.c 0 rfl
    obtain ⟨p1, _⟩ := hb11.c 1 rfl
    clear hmu hx1 hx3 hv6 hf6
    go_wp2_with fail
    refine hX6.mono ?_
    rintro e w7 ⟨rfl, hg7⟩
    clear hX6
    go_wp2_with fail
    refine (ready_any _).mono ?_
    rintro e w9 ⟨rfl, hg9⟩
    go_wp2_with fail
    go_ret
    exact ⟨rfl, hgw11.t (hg7.t hg9)⟩
  · have hb0 : (ee == 0) = false := beq_eq_false_iff_ne.2 he
    clear hback
    replace he := hide he
    go_wp2_with fail
    refine hRu.mono ?_
    rintro e w6 ⟨A6, c6, B6, d6, rfl, hv6, hf6, hg6⟩
    clear hRu
    go_wp2_with fail
    refine (ready_any _).mono ?_
    rintro e w9 ⟨rfl, hg9⟩
    go_wp2_with fail
    go_ret
    exact ⟨rfl, hgw5.t (hg6.t (by first | exact hg9 | exact gr_trans (gr_alloc (World.grownBy.refl _ _) _) hg9))⟩

end Go.Proofs.YtcglkjpfnnehhaaGreatDoor
