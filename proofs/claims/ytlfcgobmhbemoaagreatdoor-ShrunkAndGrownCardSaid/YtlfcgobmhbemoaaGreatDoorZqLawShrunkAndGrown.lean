/- Contracts of functions that this seat's laws reach, each: what one call returns and what it leaves in memory; no condition beyond each theorem's own hypotheses. -/
import Derived.Test.YtlfcgobmhbemoaaGreatDoorZqReady
import Derived.Test.YtlfcgobmhbemoaaGreatDoorZqCelAE
import Derived.Test.YtlfcgobmhbemoaaGreatDoorZqCelAH
set_option linter.unusedVariables false
set_option linter.unusedSimpArgs false
namespace Go.Bl
open Go

theorem is_right {step d : Int} {S : Int → Int → Bool} {c : Cel} {er : Int} (h : IsCells step S c er) (hs : stepB step = false) (hd : d ≤ 90) (hb : InS d S) : er = 0 ∧ CellsOk c ∧ c.step = step ∧ ∀ x y, onC c x y = S x y := by
  obtain rfl := h.zero' hs hd hb
  exact ⟨rfl, h.back hs⟩

theorem res_empty {a b c : Cel} {S : Int → Int → Bool} {er : Int} (h : ResC (pairF a b) a.step S c er) (ha : CellsOk a) (hb : CellsOk b) (hs : a.step = b.step) (hn : ∀ x y, S x y = false) : er = 0 ∧ c.rows = [] := by
  rcases h with ⟨h, -⟩ | ⟨-, ⟨-, rfl, h⟩ | ⟨_, _, _, _, hB, -⟩⟩
  · exact absurd (pair_zero ha hb hs) h
  · exact ⟨h, rfl⟩
  · exact (hB.no hn).elim

theorem CellsOk.small {c : Cel} (h : CellsOk c) : ∀ s ∈ c.rows, s.size ≤ 4611686018427387904 := fun s hs => by
  obtain ⟨j, hj, rfl⟩ := List.mem_iff_getElem.1 hs
  have h1 := (h.row j hj).1
  have h2 := h.wide
  rw [getD_of hj] at h1
  omega

end Go.Bl
namespace Go.Proofs.YtlfcgobmhbemoaaGreatDoor
open Go Go.RowKit Go.Bl

set_option maxHeartbeats 8000000 in
set_option maxRecDepth 100000 in
theorem shrunkAndGrown_law (A : Option Addr) (n c : Nat) (L : List Int) (w : World) (hL : Sl w 0 A L) (hn : L.length = n) :
    Calls Tryz.prog 5 #[.slice A n c] w fun e w' => e = .returned (.bool true) ∧ w.grownBy w' none := by
  have hs0 := strm_new (c := c) 25 hL hn
  have hg0 := gr_alloc (World.grownBy.refl w none) (.cells #[.slice A n c, .int .i64 0] 25)
  have hR := hide (rightCells_any _ 0 2 _ hs0 (by omega) (by decide))
  go_enter Tryz.func5, Tryz.ntmps5
  go_wp2_with fail
  refine hR.out.mono ?_
  rintro e w1 ⟨a, A1, cc1, rfl, hl1, hoka, hsta, hna, ho1⟩
  replace hl1 := hl1.mono (show w.heap.size + 1 ≤ _ by simp)
  obtain ⟨n1, hn1⟩ : ∃ q, q = a.rows.length := ⟨_, rfl⟩
  rw [← hn1]
  replace hn1 := hide hn1
  obtain ⟨b, hb⟩ : ∃ q, q = w.heap.size := ⟨_, rfl⟩
  rw [← hb] at hl1 ho1 ⊢
  replace hb : w.heap.size ≤ b := by omega
  have hgb : w.grownBy w1 none := gr_new hg0 ho1.1 (by omega)
  have hbw1 : b < w1.heap.size := ho1.lt
  have hin : InS 50 (onC a) := fun x y h => by have := hna x y h; omega
  replace hoka := hide hoka
  replace hin := hide hin
  clear hR hs0 hL hsta hna
  have hr1 := ho1.2
  clear ho1
  go_wp2_with fail
  refine (range_any b _ 0 3 w1 hr1 (by omega) (by omega) (by omega) (by omega)).mono ?_
  rintro e w2 ⟨k, rfl, hk, ho2⟩
  go_wp2_with fail
  refine (range_any b _ 0 3 w2 ho2.2 (by omega) (by omega) (by omega) (by omega)).mono ?_
  rintro e w3 ⟨m, rfl, hm, ho3⟩
  have hlb := (hl1.gr ho2.1 (fun q e => by injection e; omega)).gr ho3.1 (fun q e => by injection e; omega)
  have hgw3 := gr_new (gr_new hgb ho2.1 (by omega)) ho3.1 (by omega)
  clear hl1 ho2 ho3 hgb hg0 hr1
  go_upto_region 3 with fail
  obtain ⟨w4, hw4⟩ : ∃ x, x = (w3).alloc (.cells [.int .i64 (a).step, .int .i64 (a).x, .int .i64 (a).y, .slice A1 n1 cc1].toArray 28) := ⟨_, rfl⟩
  have hg4 : (w3).grownBy w4 none := by rw [hw4]; exact gr_alloc (World.grownBy.refl _ _) _
  have hb4 : Box w4 (w3).heap.size 28 [.int .i64 (a).step, .int .i64 (a).x, .int .i64 (a).y, .slice A1 n1 cc1] := by rw [hw4]; exact Box.new _ _ _
  have hxs4 := hb4.lt
  rw [← hw4]
  clear hw4
  obtain ⟨x4, hx4⟩ : ∃ x, x = (w3).heap.size := ⟨_, rfl⟩
  rw [← hx4] at hb4 hxs4 ⊢
  have hxl4 : (w3).heap.size ≤ x4 := by omega
  clear hx4
  have hC4 := CArg.mk (w := w4) ((hlb.pure hg4).mono (Nat.zero_le _)) hn1.out.symm hoka.out.small
  have hgw := hgw3.t hg4
  have hstb := hide hoka.out.step
  have hk20 : Hid (0 ≤ k ∧ k ≤ 20) := by show _ ∧ _; omega
  have hm20 : Hid (0 ≤ m ∧ m ≤ 20) := by show _ ∧ _; omega
  have hkm20 : Hid (0 ≤ k + m ∧ k + m ≤ 20) := by show _ ∧ _; omega
  have hd1 : Hid (50 + k ≤ 90) := by show _ ≤ _; omega
  have hd2 : Hid (50 + (k + m) ≤ 90) := by show _ ≤ _; omega
  clear hlb hgw3 hg4 hxs4 hxl4 hbw1
  obtain ⟨⟨p0, -⟩, ⟨p1, -⟩, ⟨p2, -⟩, ⟨p3, -⟩⟩ := box4_c hb4
  have hcon := hide (shrunk_any a A1 n1 cc1 k w4 hC4 hoka.out hk20.out)
  go_wp2_with fail
  refine (hcon.out).mono ?_
  rintro e u7 ⟨c7, er7, C7, cc7, rfl, hR7, hO7, hu7⟩
  obtain ⟨he7, hok7, hst7, hon7⟩ := (fun h => is_right h hstb.out (show (50 : Int) ≤ 90 by decide) (shr_in hk20.out.1 hin.out)) hR7
  subst he7
  obtain ⟨n7, hn7⟩ : ∃ q, q = (c7).rows.length := ⟨_, rfl⟩
  rw [← hn7]
  have hC7 := CArg.mk (w := u7) ((hO7.sl).mono (Nat.zero_le _)) hn7.symm hok7.small
  replace hn7 := hide hn7
  replace hst7 := hide hst7
  replace hon7 := hide hon7
  replace hok7 := hide hok7
  clear hR7 hO7
  go_upto_region 4 with fail
  obtain ⟨w7, hw7⟩ : ∃ x, x = (u7).alloc (.cells [.int .i64 (c7).step, .int .i64 (c7).x, .int .i64 (c7).y, .slice C7 n7 cc7].toArray 28) := ⟨_, rfl⟩
  have hg7 : (u7).grownBy w7 none := by rw [hw7]; exact gr_alloc (World.grownBy.refl _ _) _
  have hb7 : Box w7 (u7).heap.size 28 [.int .i64 (c7).step, .int .i64 (c7).x, .int .i64 (c7).y, .slice C7 n7 cc7] := by rw [hw7]; exact Box.new _ _ _
  have hxs7 := hb7.lt
  rw [← hw7]
  clear hw7
  obtain ⟨x7, hx7⟩ : ∃ x, x = (u7).heap.size := ⟨_, rfl⟩
  rw [← hx7] at hb7 hxs7 ⊢
  have hxl7 : (u7).heap.size ≤ x7 := by omega
  clear hx7
  replace hC7 := hC7.pure hg7
  have hv7 := hu7.t hg7
  clear hu7 hg7 hxs7 hxl7
  clear p0 p1 p2 p3 hcon
  replace hb4 := hb4.pure hv7
  replace hC4 := hC4.pure hv7
  replace hgw := hgw.t hv7
  clear hv7
  have hon7' : Hid (onC c7 = shrS k (onC a)) := funext fun x => funext fun y => hon7.out x y
  have hin7 : Hid (InS 50 (onC c7)) := by rw [Hid, hon7'.out]; exact shr_in hk20.out.1 hin.out
  obtain ⟨⟨p0, -⟩, ⟨p1, -⟩, ⟨p2, -⟩, ⟨p3, -⟩⟩ := box4_c hb7
  have hcon := hide (grown_any c7 C7 n7 cc7 k w7 hC7 hok7.out hk20.out)
  go_wp2_with fail
  refine (hcon.out).mono ?_
  rintro e u9 ⟨c9, er9, C9, cc9, rfl, hR9, hO9, hu9⟩
  obtain ⟨he9, hok9, hst9, hon9⟩ := (fun h => is_right h hok7.out.step hd1.out (gro_in hin7.out)) hR9
  subst he9
  obtain ⟨n9, hn9⟩ : ∃ q, q = (c9).rows.length := ⟨_, rfl⟩
  rw [← hn9]
  have hC9 := CArg.mk (w := u9) ((hO9.sl).mono (Nat.zero_le _)) hn9.symm hok9.small
  replace hn9 := hide hn9
  replace hst9 := hide hst9
  replace hon9 := hide hon9
  replace hok9 := hide hok9
  clear hR9 hO9
  go_upto_region 5 with fail
  obtain ⟨w9, hw9⟩ : ∃ x, x = (u9).alloc (.cells [.int .i64 (c9).step, .int .i64 (c9).x, .int .i64 (c9).y, .slice C9 n9 cc9].toArray 28) := ⟨_, rfl⟩
  have hg9 : (u9).grownBy w9 none := by rw [hw9]; exact gr_alloc (World.grownBy.refl _ _) _
  have hb9 : Box w9 (u9).heap.size 28 [.int .i64 (c9).step, .int .i64 (c9).x, .int .i64 (c9).y, .slice C9 n9 cc9] := by rw [hw9]; exact Box.new _ _ _
  have hxs9 := hb9.lt
  rw [← hw9]
  clear hw9
  obtain ⟨x9, hx9⟩ : ∃ x, x = (u9).heap.size := ⟨_, rfl⟩
  rw [← hx9] at hb9 hxs9 ⊢
  have hxl9 : (u9).heap.size ≤ x9 := by omega
  clear hx9
  replace hC9 := hC9.pure hg9
  have hv9 := hu9.t hg9
  clear hu9 hg9 hxs9 hxl9
  clear p0 p1 p2 p3 hcon
  replace hb4 := hb4.pure hv9
  replace hC4 := hC4.pure hv9
  replace hb7 := hb7.pure hv9
  replace hC7 := hC7.pure hv9
  replace hgw := hgw.t hv9
  clear hv9
  obtain ⟨⟨p0, -⟩, ⟨p1, -⟩, ⟨p2, -⟩, ⟨p3, -⟩⟩ := box4_c hb4
  have hcon := hide (grown_any a A1 n1 cc1 k w9 hC4 hoka.out hk20.out)
  go_wp2_with fail
  refine (hcon.out).mono ?_
  rintro e u11 ⟨c11, er11, C11, cc11, rfl, hR11, hO11, hu11⟩
  obtain ⟨he11, hok11, hst11, hon11⟩ := (fun h => is_right h hstb.out hd1.out (gro_in hin.out)) hR11
  subst he11
  obtain ⟨n11, hn11⟩ : ∃ q, q = (c11).rows.length := ⟨_, rfl⟩
  rw [← hn11]
  have hC11 := CArg.mk (w := u11) ((hO11.sl).mono (Nat.zero_le _)) hn11.symm hok11.small
  replace hn11 := hide hn11
  replace hst11 := hide hst11
  replace hon11 := hide hon11
  replace hok11 := hide hok11
  clear hR11 hO11
  go_upto_region 6 with fail
  obtain ⟨w11, hw11⟩ : ∃ x, x = (u11).alloc (.cells [.int .i64 (c11).step, .int .i64 (c11).x, .int .i64 (c11).y, .slice C11 n11 cc11].toArray 28) := ⟨_, rfl⟩
  have hg11 : (u11).grownBy w11 none := by rw [hw11]; exact gr_alloc (World.grownBy.refl _ _) _
  have hb11 : Box w11 (u11).heap.size 28 [.int .i64 (c11).step, .int .i64 (c11).x, .int .i64 (c11).y, .slice C11 n11 cc11] := by rw [hw11]; exact Box.new _ _ _
  have hxs11 := hb11.lt
  rw [← hw11]
  clear hw11
  obtain ⟨x11, hx11⟩ : ∃ x, x = (u11).heap.size := ⟨_, rfl⟩
  rw [← hx11] at hb11 hxs11 ⊢
  have hxl11 : (u11).heap.size ≤ x11 := by omega
  clear hx11
  replace hC11 := hC11.pure hg11
  have hv11 := hu11.t hg11
  clear hu11 hg11 hxs11 hxl11
  clear p0 p1 p2 p3 hcon
  replace hb4 := hb4.pure hv11
  replace hC4 := hC4.pure hv11
  replace hb7 := hb7.pure hv11
  replace hC7 := hC7.pure hv11
  replace hb9 := hb9.pure hv11
  replace hC9 := hC9.pure hv11
  replace hgw := hgw.t hv11
  clear hv11
  have hon11' : Hid (onC c11 = groS k (onC a)) := funext fun x => funext fun y => hon11.out x y
  have hin11 : Hid (InS (50 + k) (onC c11)) := by rw [Hid, hon11'.out]; exact gro_in hin.out
  obtain ⟨⟨p0, -⟩, ⟨p1, -⟩, ⟨p2, -⟩, ⟨p3, -⟩⟩ := box4_c hb11
  have hcon := hide (shrunk_any c11 C11 n11 cc11 k w11 hC11 hok11.out hk20.out)
  go_wp2_with fail
  refine (hcon.out).mono ?_
  rintro e u13 ⟨c13, er13, C13, cc13, rfl, hR13, hO13, hu13⟩
  obtain ⟨he13, hok13, hst13, hon13⟩ := (fun h => is_right h hok11.out.step hd1.out (shr_in hk20.out.1 hin11.out)) hR13
  subst he13
  obtain ⟨n13, hn13⟩ : ∃ q, q = (c13).rows.length := ⟨_, rfl⟩
  rw [← hn13]
  have hC13 := CArg.mk (w := u13) ((hO13.sl).mono (Nat.zero_le _)) hn13.symm hok13.small
  replace hn13 := hide hn13
  replace hst13 := hide hst13
  replace hon13 := hide hon13
  replace hok13 := hide hok13
  clear hR13 hO13
  go_upto_region 7 with fail
  obtain ⟨w13, hw13⟩ : ∃ x, x = (u13).alloc (.cells [.int .i64 (c13).step, .int .i64 (c13).x, .int .i64 (c13).y, .slice C13 n13 cc13].toArray 28) := ⟨_, rfl⟩
  have hg13 : (u13).grownBy w13 none := by rw [hw13]; exact gr_alloc (World.grownBy.refl _ _) _
  have hb13 : Box w13 (u13).heap.size 28 [.int .i64 (c13).step, .int .i64 (c13).x, .int .i64 (c13).y, .slice C13 n13 cc13] := by rw [hw13]; exact Box.new _ _ _
  have hxs13 := hb13.lt
  rw [← hw13]
  clear hw13
  obtain ⟨x13, hx13⟩ : ∃ x, x = (u13).heap.size := ⟨_, rfl⟩
  rw [← hx13] at hb13 hxs13 ⊢
  have hxl13 : (u13).heap.size ≤ x13 := by omega
  clear hx13
  replace hC13 := hC13.pure hg13
  have hv13 := hu13.t hg13
  clear hu13 hg13 hxs13 hxl13
  clear p0 p1 p2 p3 hcon
  replace hb4 := hb4.pure hv13
  replace hC4 := hC4.pure hv13
  replace hb7 := hb7.pure hv13
  replace hC7 := hC7.pure hv13
  replace hb9 := hb9.pure hv13
  replace hC9 := hC9.pure hv13
  replace hb11 := hb11.pure hv13
  replace hC11 := hC11.pure hv13
  replace hgw := hgw.t hv13
  clear hv13
  have hs9 := hide (hst9.out.trans hst7.out)
  have hs13 := hide (hst13.out.trans hst11.out)
  have hE1 : Hid (∀ x y, (onC c9 x y && !onC a x y) = false) := fun x y => by
    rw [hon9.out, hon7'.out]
    rcases h : groS k (shrS k (onC a)) x y with _ | _
    · rfl
    · rw [opened h]; rfl
  have hE2 : Hid (∀ x y, (onC a x y && !onC c13 x y) = false) := fun x y => by
    rw [hon13.out, hon11'.out]
    rcases h : onC a x y with _ | _
    · rfl
    · rw [closed h]; rfl
  obtain ⟨⟨p0, -⟩, ⟨p1, -⟩, ⟨p2, -⟩, ⟨p3, -⟩⟩ := box4_c hb9
  obtain ⟨⟨q0, -⟩, ⟨q1, -⟩, ⟨q2, -⟩, ⟨q3, -⟩⟩ := box4_c hb4
  have hcon := hide (minus_any c9 a C9 n9 cc9 A1 n1 cc1 w13 hC9 hC4)
  go_wp2_with fail
  refine (hcon.out).mono ?_
  rintro e u15 ⟨c15, er15, C15, cc15, rfl, hR15, hO15, hu15⟩
  obtain ⟨he15, hem15⟩ := (fun h => res_empty h hok9.out hoka.out hs9.out hE1.out) hR15
  subst he15
  obtain ⟨n15, hn15⟩ : ∃ q, q = (c15).rows.length := ⟨_, rfl⟩
  rw [← hn15]
  obtain rfl : n15 = 0 := by rw [hn15, hem15]; rfl
  clear hR15 hO15 hn15 hem15
  go_upto_region 10 with fail
  obtain ⟨w15, hw15⟩ : ∃ x, x = (u15).alloc (.cells [.int .i64 (c15).step, .int .i64 (c15).x, .int .i64 (c15).y, .slice C15 0 cc15].toArray 28) := ⟨_, rfl⟩
  have hg15 : (u15).grownBy w15 none := by rw [hw15]; exact gr_alloc (World.grownBy.refl _ _) _
  have hb15 : Box w15 (u15).heap.size 28 [.int .i64 (c15).step, .int .i64 (c15).x, .int .i64 (c15).y, .slice C15 0 cc15] := by rw [hw15]; exact Box.new _ _ _
  have hxs15 := hb15.lt
  rw [← hw15]
  clear hw15
  obtain ⟨x15, hx15⟩ : ∃ x, x = (u15).heap.size := ⟨_, rfl⟩
  rw [← hx15] at hb15 hxs15 ⊢
  have hxl15 : (u15).heap.size ≤ x15 := by omega
  clear hx15
  have hv15 := hu15.t hg15
  clear hu15 hg15 hxs15 hxl15
  clear p0 p1 p2 p3 q0 q1 q2 q3 hcon
  replace hb4 := hb4.pure hv15
  replace hC4 := hC4.pure hv15
  replace hb7 := hb7.pure hv15
  replace hC7 := hC7.pure hv15
  replace hb9 := hb9.pure hv15
  replace hC9 := hC9.pure hv15
  replace hb11 := hb11.pure hv15
  replace hC11 := hC11.pure hv15
  replace hb13 := hb13.pure hv15
  replace hC13 := hC13.pure hv15
  replace hgw := hgw.t hv15
  clear hv15
  obtain ⟨⟨p0, -⟩, ⟨p1, -⟩, ⟨p2, -⟩, ⟨p3, -⟩⟩ := box4_c hb4
  obtain ⟨⟨q0, -⟩, ⟨q1, -⟩, ⟨q2, -⟩, ⟨q3, -⟩⟩ := box4_c hb13
  have hcon := hide (minus_any a c13 A1 n1 cc1 C13 n13 cc13 w15 hC4 hC13)
  go_wp2_with fail
  refine (hcon.out).mono ?_
  rintro e u16 ⟨c16, er16, C16, cc16, rfl, hR16, hO16, hu16⟩
  obtain ⟨he16, hem16⟩ := (fun h => res_empty h hoka.out hok13.out hs13.out.symm hE2.out) hR16
  subst he16
  obtain ⟨n16, hn16⟩ : ∃ q, q = (c16).rows.length := ⟨_, rfl⟩
  rw [← hn16]
  obtain rfl : n16 = 0 := by rw [hn16, hem16]; rfl
  clear hR16 hO16 hn16 hem16
  go_upto_region 11 with fail
  obtain ⟨w16, hw16⟩ : ∃ x, x = (u16).alloc (.cells [.int .i64 (c16).step, .int .i64 (c16).x, .int .i64 (c16).y, .slice C16 0 cc16].toArray 28) := ⟨_, rfl⟩
  have hg16 : (u16).grownBy w16 none := by rw [hw16]; exact gr_alloc (World.grownBy.refl _ _) _
  have hb16 : Box w16 (u16).heap.size 28 [.int .i64 (c16).step, .int .i64 (c16).x, .int .i64 (c16).y, .slice C16 0 cc16] := by rw [hw16]; exact Box.new _ _ _
  have hxs16 := hb16.lt
  rw [← hw16]
  clear hw16
  obtain ⟨x16, hx16⟩ : ∃ x, x = (u16).heap.size := ⟨_, rfl⟩
  rw [← hx16] at hb16 hxs16 ⊢
  have hxl16 : (u16).heap.size ≤ x16 := by omega
  clear hx16
  have hv16 := hu16.t hg16
  clear hu16 hg16 hxs16 hxl16
  clear p0 p1 p2 p3 q0 q1 q2 q3 hcon
  replace hb4 := hb4.pure hv16
  replace hC4 := hC4.pure hv16
  replace hb7 := hb7.pure hv16
  replace hC7 := hC7.pure hv16
  replace hb9 := hb9.pure hv16
  replace hC9 := hC9.pure hv16
  replace hb11 := hb11.pure hv16
  replace hC11 := hC11.pure hv16
  replace hb13 := hb13.pure hv16
  replace hC13 := hC13.pure hv16
  replace hb15 := hb15.pure hv16
  replace hgw := hgw.t hv16
  clear hv16
  obtain ⟨-, -, -, ⟨r0, -⟩⟩ := box4_c hb15
  obtain ⟨-, -, -, ⟨r1, -⟩⟩ := box4_c hb16
  obtain ⟨⟨p0, -⟩, ⟨p1, -⟩, ⟨p2, -⟩, ⟨p3, -⟩⟩ := box4_c hb11
  have hcon := hide (grown_any c11 C11 n11 cc11 m w16 hC11 hok11.out hm20.out)
  go_wp2_with fail
  refine (hcon.out).mono ?_
  rintro e u17 ⟨c17, er17, C17, cc17, rfl, hR17, hO17, hu17⟩
  obtain ⟨he17, hok17, hst17, hon17⟩ := (fun h => is_right h hok11.out.step (show 50 + k + m ≤ 90 by have := hd2.out; omega) (gro_in hin11.out)) hR17
  subst he17
  obtain ⟨n17, hn17⟩ : ∃ q, q = (c17).rows.length := ⟨_, rfl⟩
  rw [← hn17]
  have hC17 := CArg.mk (w := u17) ((hO17.sl).mono (Nat.zero_le _)) hn17.symm hok17.small
  replace hn17 := hide hn17
  replace hst17 := hide hst17
  replace hon17 := hide hon17
  replace hok17 := hide hok17
  clear hR17 hO17
  go_upto_region 14 with fail
  obtain ⟨w17, hw17⟩ : ∃ x, x = (u17).alloc (.cells [.int .i64 (c17).step, .int .i64 (c17).x, .int .i64 (c17).y, .slice C17 n17 cc17].toArray 28) := ⟨_, rfl⟩
  have hg17 : (u17).grownBy w17 none := by rw [hw17]; exact gr_alloc (World.grownBy.refl _ _) _
  have hb17 : Box w17 (u17).heap.size 28 [.int .i64 (c17).step, .int .i64 (c17).x, .int .i64 (c17).y, .slice C17 n17 cc17] := by rw [hw17]; exact Box.new _ _ _
  have hxs17 := hb17.lt
  rw [← hw17]
  clear hw17
  obtain ⟨x17, hx17⟩ : ∃ x, x = (u17).heap.size := ⟨_, rfl⟩
  rw [← hx17] at hb17 hxs17 ⊢
  have hxl17 : (u17).heap.size ≤ x17 := by omega
  clear hx17
  replace hC17 := hC17.pure hg17
  have hv17 := hu17.t hg17
  clear hu17 hg17 hxs17 hxl17
  clear p0 p1 p2 p3 hcon
  replace hb4 := hb4.pure hv17
  replace hC4 := hC4.pure hv17
  replace hb7 := hb7.pure hv17
  replace hC7 := hC7.pure hv17
  replace hb9 := hb9.pure hv17
  replace hC9 := hC9.pure hv17
  replace hb11 := hb11.pure hv17
  replace hC11 := hC11.pure hv17
  replace hb13 := hb13.pure hv17
  replace hC13 := hC13.pure hv17
  replace hb15 := hb15.pure hv17
  replace hb16 := hb16.pure hv17
  replace hgw := hgw.t hv17
  clear hv17
  clear r0 r1
  obtain ⟨⟨p0, -⟩, ⟨p1, -⟩, ⟨p2, -⟩, ⟨p3, -⟩⟩ := box4_c hb4
  have hcon := hide (grown_any a A1 n1 cc1 (k + m) w17 hC4 hoka.out hkm20.out)
  go_wp2_with fail
  refine (hcon.out).mono ?_
  rintro e u18 ⟨c18, er18, C18, cc18, rfl, hR18, hO18, hu18⟩
  obtain ⟨he18, hok18, hst18, hon18⟩ := (fun h => is_right h hstb.out hd2.out (gro_in hin.out)) hR18
  subst he18
  obtain ⟨n18, hn18⟩ : ∃ q, q = (c18).rows.length := ⟨_, rfl⟩
  rw [← hn18]
  have hC18 := CArg.mk (w := u18) ((hO18.sl).mono (Nat.zero_le _)) hn18.symm hok18.small
  replace hn18 := hide hn18
  replace hst18 := hide hst18
  replace hon18 := hide hon18
  replace hok18 := hide hok18
  clear hR18 hO18
  go_upto_region 15 with fail
  obtain ⟨w18, hw18⟩ : ∃ x, x = (u18).alloc (.cells [.int .i64 (c18).step, .int .i64 (c18).x, .int .i64 (c18).y, .slice C18 n18 cc18].toArray 28) := ⟨_, rfl⟩
  have hg18 : (u18).grownBy w18 none := by rw [hw18]; exact gr_alloc (World.grownBy.refl _ _) _
  have hb18 : Box w18 (u18).heap.size 28 [.int .i64 (c18).step, .int .i64 (c18).x, .int .i64 (c18).y, .slice C18 n18 cc18] := by rw [hw18]; exact Box.new _ _ _
  have hxs18 := hb18.lt
  rw [← hw18]
  clear hw18
  obtain ⟨x18, hx18⟩ : ∃ x, x = (u18).heap.size := ⟨_, rfl⟩
  rw [← hx18] at hb18 hxs18 ⊢
  have hxl18 : (u18).heap.size ≤ x18 := by omega
  clear hx18
  replace hC18 := hC18.pure hg18
  have hv18 := hu18.t hg18
  clear hu18 hg18 hxs18 hxl18
  clear p0 p1 p2 p3 hcon
  replace hb4 := hb4.pure hv18
  replace hC4 := hC4.pure hv18
  replace hb7 := hb7.pure hv18
  replace hC7 := hC7.pure hv18
  replace hb9 := hb9.pure hv18
  replace hC9 := hC9.pure hv18
  replace hb11 := hb11.pure hv18
  replace hC11 := hC11.pure hv18
  replace hb13 := hb13.pure hv18
  replace hC13 := hC13.pure hv18
  replace hb15 := hb15.pure hv18
  replace hb16 := hb16.pure hv18
  replace hb17 := hb17.pure hv18
  replace hC17 := hC17.pure hv18
  replace hgw := hgw.t hv18
  clear hv18
  obtain rfl : c18 = c17 := cells_same hok18.out hok17.out (by rw [hst18.out, hst17.out, hst11.out]) (fun x y => by rw [hon18.out, hon17.out, hon11'.out, grown_twice hk20.out.1 hm20.out.1])
  obtain rfl : n18 = n17 := hn18.out.trans hn17.out.symm
  have hSm := hide (sameCells_any c18 C17 n18 cc17 C18 cc18 w18 hC17.sl hC18.sl hn18.out.symm)
  obtain ⟨⟨p0, -⟩, ⟨p1, -⟩, ⟨p2, -⟩, ⟨p3, -⟩⟩ := box4_c hb17
  obtain ⟨⟨q0, -⟩, ⟨q1, -⟩, ⟨q2, -⟩, ⟨q3, -⟩⟩ := box4_c hb18
  go_wp2_with fail
  refine hSm.out.mono ?_
  rintro e w19 ⟨rfl, hg19⟩
  go_wp2_with fail
  refine (ready_any _).mono ?_
  rintro e w20 ⟨rfl, hg20⟩
  go_wp2_with fail
  go_ret
  exact ⟨rfl, (hgw.t hg19).t hg20⟩

end Go.Proofs.YtlfcgobmhbemoaaGreatDoor
