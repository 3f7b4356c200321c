/- Contracts of functions that this seat's laws reach, each: what one call returns and what it leaves in memory; no condition beyond each theorem's own hypotheses. -/
import Derived.Test.YtlfcgobmhbemoaaGreatDoorZqReady
import Derived.Test.YtlfcgobmhbemoaaGreatDoorZqCelAE
set_option linter.unusedVariables false
set_option linter.unusedSimpArgs false
namespace Go.Bl
open Go

theorem sets_counts {a b c1 c3 c4 : Cel} (h1 : ∀ x y, onC c1 x y = (onC a x y || onC b x y)) (h3 : ∀ x y, onC c3 x y = (onC a x y && onC b x y)) (h4 : ∀ x y, onC c4 x y = (onC a x y && !onC b x y)) :
    (cntS (onC c1) : Int) = (cntS (onC a) : Int) + (cntS (onC b) : Int) - (cntS (onC c3) : Int) ∧ (cntS (onC c4) : Int) = (cntS (onC a) : Int) - (cntS (onC c3) : Int) := by
  have e1 : onC c1 = fun x y => onC a x y || onC b x y := funext fun x => funext fun y => h1 x y
  have e3 : onC c3 = fun x y => onC a x y && onC b x y := funext fun x => funext fun y => h3 x y
  have e4 : onC c4 = fun x y => onC a x y && !onC b x y := funext fun x => funext fun y => h4 x y
  have := cntS_or (onC a) (onC b)
  have := cntS_minus (onC a) (onC b)
  rw [e1, e3, e4]
  omega

end Go.Bl
namespace Go.Proofs.YtlfcgobmhbemoaaGreatDoor
open Go Go.RowKit Go.Bl

-- one operation of two cells: K its number, V its start world, R the region behind it, con its contract, pr the facts (rightness), RK

set_option maxHeartbeats 8000000 in
set_option maxRecDepth 100000 in
theorem combinedAsSets_law (A : Option Addr) (n c : Nat) (L : List Int) (w : World) (hL : Sl w 0 A L) (hn : L.length = n) :
    Calls Tryz.prog 4 #[.slice A n c] w fun e w' => e = .returned (.bool true) ∧ w.grownBy w' none := by
  have hs0 := strm_new (c := c) 25 hL hn
  have hg0 := gr_alloc (World.grownBy.refl w none) (.cells #[.slice A n c, .int .i64 0] 25)
  have hR := hide (rightCells_any _ 0 2 _ hs0 (by omega) (by decide))
  go_enter Tryz.func4, Tryz.ntmps4
  go_wp2_with fail
  refine hR.out.mono ?_
  rintro e w1 ⟨a, A1, cc1, rfl, hl1, hoka, hsta, hna, ho1⟩
  replace hl1 := hl1.mono (show w.heap.size + 1 ≤ _ by simp)
  obtain ⟨n1, hn1⟩ : ∃ q, q = a.rows.length := ⟨_, rfl⟩
  rw [← hn1]
  replace hn1 := hide hn1
  obtain ⟨b, hb⟩ : ∃ q, q = w.heap.size := ⟨_, rfl⟩
  rw [← hb] at hl1 ho1 ⊢
  replace hb : w.heap.size ≤ b := by omega
  have hgb : w.grownBy w1 none := gr_new hg0 ho1.1 (by omega)
  have hR2 := hide (rightCells_any b _ 2 _ ho1.2 (by omega) (by decide))
  have hbw1 : b < w1.heap.size := ho1.lt
  clear hR hs0 hL ho1
  replace hoka := hide hoka
  replace hsta := hide hsta
  replace hna := hide hna
  go_wp2_with fail
  refine hR2.out.mono ?_
  rintro e w2 ⟨d, A2, cc2, rfl, hl2, hokd, hstd, hnd, ho2⟩
  obtain ⟨n2, hn2⟩ : ∃ q, q = d.rows.length := ⟨_, rfl⟩
  rw [← hn2]
  replace hn2 := hide hn2
  replace hokd := hide hokd
  replace hnd := hide hnd
  have hss := hide (hsta.out.trans hstd.symm)
  have hla := hl1.gr ho2.1 (fun q e => by injection e; omega)
  have hgw2 := gr_new hgb ho2.1 (by omega)
  clear hR2 hstd hl1 ho2 hgb hg0
  go_upto_region 3 with fail
  obtain ⟨w0, hw0⟩ : ∃ x, x = ((w2).alloc (.cells [.int .i64 (a).step, .int .i64 (a).x, .int .i64 (a).y, .slice A1 n1 cc1].toArray 28)).alloc (.cells [.int .i64 (d).step, .int .i64 (d).x, .int .i64 (d).y, .slice A2 n2 cc2].toArray 28) := ⟨_, rfl⟩
  have hba0 : Box w0 (w2).heap.size 28 [.int .i64 (a).step, .int .i64 (a).x, .int .i64 (a).y, .slice A1 n1 cc1] := by
    rw [hw0]; exact (Box.new (w2) [.int .i64 (a).step, .int .i64 (a).x, .int .i64 (a).y, .slice A1 n1 cc1] 28).pure (gr_alloc (World.grownBy.refl _ _) _)
  have hbb0 : Box w0 ((w2).heap.size + 1) 28 [.int .i64 (d).step, .int .i64 (d).x, .int .i64 (d).y, .slice A2 n2 cc2] := by
    have h := Box.new ((w2).alloc (.cells [.int .i64 (a).step, .int .i64 (a).x, .int .i64 (a).y, .slice A1 n1 cc1].toArray 28)) [.int .i64 (d).step, .int .i64 (d).x, .int .i64 (d).y, .slice A2 n2 cc2] 28
    rw [show ((w2).alloc (.cells [.int .i64 (a).step, .int .i64 (a).x, .int .i64 (a).y, .slice A1 n1 cc1].toArray 28)).heap.size = (w2).heap.size + 1 by simp] at h
    rw [hw0]; exact h
  have hg0 : (w2).grownBy w0 none := by rw [hw0]; exact (by repeat (first | exact World.grownBy.refl _ _ | assumption | refine gr_alloc ?_ _ | (apply gr_tail; assumption) | refine gr_drewN ?_ _ | refine gr_drew ?_))
  rw [← hw0]
  clear hw0
  obtain ⟨xb0, hxb0⟩ : ∃ x, x = (w2).heap.size + 1 := ⟨_, rfl⟩
  rw [← hxb0] at hbb0 ⊢
  obtain ⟨xa0, hxa0⟩ : ∃ x, x = (w2).heap.size := ⟨_, rfl⟩
  rw [← hxa0] at hba0 ⊢
  have hxn0 : xa0 ≠ xb0 := by omega
  replace hxa0 : (w2).heap.size ≤ xa0 := by omega
  replace hxb0 : (w2).heap.size ≤ xb0 := by omega
  have hbig : ∀ e : Cel, CellsOk e → ∀ s ∈ e.rows, s.size ≤ 4611686018427387904 := fun e he s hs => by
    obtain ⟨j, hj, rfl⟩ := List.mem_iff_getElem.1 hs
    have h1 := (he.row j hj).1
    have h2 := he.wide
    rw [getD_of hj] at h1
    omega
  have hA := CArg.mk (w := w0) ((hla.pure hg0).mono (Nat.zero_le _)) hn1.out.symm (hbig a hoka.out)
  have hB := CArg.mk (w := w0) ((hl2.pure hg0).mono (Nat.zero_le _)) hn2.out.symm (hbig d hokd.out)
  have hgw0 := hgw2.t hg0
  clear hla hl2 hgw2 hg0 hbig hxa0 hxb0 hxn0 hbw1
  have hnU : Hid (NearS (fun x y => onC a x y || onC d x y)) := fun x y h => by
    simp only [Bool.or_eq_true] at h
    rcases h with h | h
    · exact hna.out x y h
    · exact hnd.out x y h
  have hnU2 : Hid (NearS (fun x y => onC d x y || onC a x y)) := fun x y h => hnU.out x y (by simp only [Bool.or_comm] at h ⊢; exact h)
  have hnB : Hid (NearS (fun x y => onC a x y && onC d x y)) := fun x y h => by
    simp only [Bool.and_eq_true] at h
    exact hna.out x y h.1
  have hnM : Hid (NearS (fun x y => onC a x y && !onC d x y)) := fun x y h => by
    simp only [Bool.and_eq_true] at h
    exact hna.out x y h.1
  obtain ⟨⟨p0, -⟩, ⟨p1, -⟩, ⟨p2, -⟩, ⟨p3, -⟩⟩ := box4_c hba0
  obtain ⟨⟨q0, -⟩, ⟨q1, -⟩, ⟨q2, -⟩, ⟨q3, -⟩⟩ := box4_c hbb0
  have hcon := hide (union_any a d A1 n1 cc1 A2 n2 cc2 w0 hA hB)
  go_wp2_with fail
  refine (hcon.out).mono ?_
  rintro e u6 ⟨c6, er6, C6, cc6, rfl, hR6, hO6, hu6⟩
  obtain ⟨he6, hok6, hst6, hon6⟩ := res_right hR6 hoka.out hokd.out hss.out hnU.out
  subst he6
  obtain ⟨n6, hn6⟩ : ∃ q, q = (c6).rows.length := ⟨_, rfl⟩
  rw [← hn6]
  have hz6 : ∀ s ∈ (c6).rows, s.size ≤ 4611686018427387904 := fun s h => by have := hR6.small s h; omega
  have hC6 := CArg.mk (w := u6) ((hO6.sl).mono (Nat.zero_le _)) hn6.symm hz6
  replace hn6 := hide hn6
  replace hst6 := hide hst6
  replace hon6 := hide hon6
  replace hok6 := hide hok6
  clear hR6 hO6 hz6
  go_upto_region 4 with fail
  obtain ⟨w6, hw6⟩ : ∃ x, x = (u6).alloc (.cells [.int .i64 (c6).step, .int .i64 (c6).x, .int .i64 (c6).y, .slice C6 n6 cc6].toArray 28) := ⟨_, rfl⟩
  have hg6 : (u6).grownBy w6 none := by rw [hw6]; exact gr_alloc (World.grownBy.refl _ _) _
  have hb6 : Box w6 (u6).heap.size 28 [.int .i64 (c6).step, .int .i64 (c6).x, .int .i64 (c6).y, .slice C6 n6 cc6] := by rw [hw6]; exact Box.new _ _ _
  have hxs6 := hb6.lt
  rw [← hw6]
  clear hw6
  obtain ⟨x6, hx6⟩ : ∃ x, x = (u6).heap.size := ⟨_, rfl⟩
  rw [← hx6] at hb6 hxs6 ⊢
  have hxl6 : (u6).heap.size ≤ x6 := by omega
  clear hx6
  replace hC6 := hC6.pure hg6
  have hv6 := hu6.t hg6
  clear hu6 hg6 hxs6 hxl6
  clear p0 p1 p2 p3 q0 q1 q2 q3 hcon
  replace hba0 := hba0.pure hv6
  replace hbb0 := hbb0.pure hv6
  replace hA := hA.pure hv6
  replace hB := hB.pure hv6
  replace hgw0 := hgw0.t hv6
  clear hv6
  obtain ⟨⟨p0, -⟩, ⟨p1, -⟩, ⟨p2, -⟩, ⟨p3, -⟩⟩ := box4_c hba0
  obtain ⟨⟨q0, -⟩, ⟨q1, -⟩, ⟨q2, -⟩, ⟨q3, -⟩⟩ := box4_c hbb0
  have hcon := hide (union_any d a A2 n2 cc2 A1 n1 cc1 w6 hB hA)
  go_wp2_with fail
  refine (hcon.out).mono ?_
  rintro e u8 ⟨c8, er8, C8, cc8, rfl, hR8, hO8, hu8⟩
  obtain ⟨he8, hok8, hst8, hon8⟩ := res_right hR8 hokd.out hoka.out hss.out.symm hnU2.out
  subst he8
  obtain ⟨n8, hn8⟩ : ∃ q, q = (c8).rows.length := ⟨_, rfl⟩
  rw [← hn8]
  have hz8 : ∀ s ∈ (c8).rows, s.size ≤ 4611686018427387904 := fun s h => by have := hR8.small s h; omega
  have hC8 := CArg.mk (w := u8) ((hO8.sl).mono (Nat.zero_le _)) hn8.symm hz8
  replace hn8 := hide hn8
  replace hst8 := hide hst8
  replace hon8 := hide hon8
  replace hok8 := hide hok8
  clear hR8 hO8 hz8
  go_upto_region 5 with fail
  obtain ⟨w8, hw8⟩ : ∃ x, x = (u8).alloc (.cells [.int .i64 (c8).step, .int .i64 (c8).x, .int .i64 (c8).y, .slice C8 n8 cc8].toArray 28) := ⟨_, rfl⟩
  have hg8 : (u8).grownBy w8 none := by rw [hw8]; exact gr_alloc (World.grownBy.refl _ _) _
  have hb8 : Box w8 (u8).heap.size 28 [.int .i64 (c8).step, .int .i64 (c8).x, .int .i64 (c8).y, .slice C8 n8 cc8] := by rw [hw8]; exact Box.new _ _ _
  have hxs8 := hb8.lt
  rw [← hw8]
  clear hw8
  obtain ⟨x8, hx8⟩ : ∃ x, x = (u8).heap.size := ⟨_, rfl⟩
  rw [← hx8] at hb8 hxs8 ⊢
  have hxl8 : (u8).heap.size ≤ x8 := by omega
  clear hx8
  replace hC8 := hC8.pure hg8
  have hv8 := hu8.t hg8
  clear hu8 hg8 hxs8 hxl8
  clear p0 p1 p2 p3 q0 q1 q2 q3 hcon
  replace hba0 := hba0.pure hv8
  replace hbb0 := hbb0.pure hv8
  replace hA := hA.pure hv8
  replace hB := hB.pure hv8
  replace hb6 := hb6.pure hv8
  replace hC6 := hC6.pure hv8
  replace hgw0 := hgw0.t hv8
  clear hv8
  obtain ⟨⟨p0, -⟩, ⟨p1, -⟩, ⟨p2, -⟩, ⟨p3, -⟩⟩ := box4_c hba0
  obtain ⟨⟨q0, -⟩, ⟨q1, -⟩, ⟨q2, -⟩, ⟨q3, -⟩⟩ := box4_c hbb0
  have hcon := hide (both_any a d A1 n1 cc1 A2 n2 cc2 w8 hA hB)
  go_wp2_with fail
  refine (hcon.out).mono ?_
  rintro e u10 ⟨c10, er10, C10, cc10, rfl, hR10, hO10, hu10⟩
  obtain ⟨he10, hok10, hst10, hon10⟩ := res_right hR10 hoka.out hokd.out hss.out hnB.out
  subst he10
  obtain ⟨n10, hn10⟩ : ∃ q, q = (c10).rows.length := ⟨_, rfl⟩
  rw [← hn10]
  have hz10 : ∀ s ∈ (c10).rows, s.size ≤ 4611686018427387904 := fun s h => by have := hR10.small s h; omega
  have hC10 := CArg.mk (w := u10) ((hO10.sl).mono (Nat.zero_le _)) hn10.symm hz10
  replace hn10 := hide hn10
  replace hst10 := hide hst10
  replace hon10 := hide hon10
  replace hok10 := hide hok10
  clear hR10 hO10 hz10
  go_upto_region 6 with fail
  obtain ⟨w10, hw10⟩ : ∃ x, x = (u10).alloc (.cells [.int .i64 (c10).step, .int .i64 (c10).x, .int .i64 (c10).y, .slice C10 n10 cc10].toArray 28) := ⟨_, rfl⟩
  have hg10 : (u10).grownBy w10 none := by rw [hw10]; exact gr_alloc (World.grownBy.refl _ _) _
  have hb10 : Box w10 (u10).heap.size 28 [.int .i64 (c10).step, .int .i64 (c10).x, .int .i64 (c10).y, .slice C10 n10 cc10] := by rw [hw10]; exact Box.new _ _ _
  have hxs10 := hb10.lt
  rw [← hw10]
  clear hw10
  obtain ⟨x10, hx10⟩ : ∃ x, x = (u10).heap.size := ⟨_, rfl⟩
  rw [← hx10] at hb10 hxs10 ⊢
  have hxl10 : (u10).heap.size ≤ x10 := by omega
  clear hx10
  replace hC10 := hC10.pure hg10
  have hv10 := hu10.t hg10
  clear hu10 hg10 hxs10 hxl10
  clear p0 p1 p2 p3 q0 q1 q2 q3 hcon
  replace hba0 := hba0.pure hv10
  replace hbb0 := hbb0.pure hv10
  replace hA := hA.pure hv10
  replace hB := hB.pure hv10
  replace hb6 := hb6.pure hv10
  replace hC6 := hC6.pure hv10
  replace hb8 := hb8.pure hv10
  replace hC8 := hC8.pure hv10
  replace hgw0 := hgw0.t hv10
  clear hv10
  obtain ⟨⟨p0, -⟩, ⟨p1, -⟩, ⟨p2, -⟩, ⟨p3, -⟩⟩ := box4_c hba0
  obtain ⟨⟨q0, -⟩, ⟨q1, -⟩, ⟨q2, -⟩, ⟨q3, -⟩⟩ := box4_c hbb0
  have hcon := hide (minus_any a d A1 n1 cc1 A2 n2 cc2 w10 hA hB)
  go_wp2_with fail
  refine (hcon.out).mono ?_
  rintro e u12 ⟨c12, er12, C12, cc12, rfl, hR12, hO12, hu12⟩
  obtain ⟨he12, hok12, hst12, hon12⟩ := res_right hR12 hoka.out hokd.out hss.out hnM.out
  subst he12
  obtain ⟨n12, hn12⟩ : ∃ q, q = (c12).rows.length := ⟨_, rfl⟩
  rw [← hn12]
  have hz12 : ∀ s ∈ (c12).rows, s.size ≤ 4611686018427387904 := fun s h => by have := hR12.small s h; omega
  have hC12 := CArg.mk (w := u12) ((hO12.sl).mono (Nat.zero_le _)) hn12.symm hz12
  replace hn12 := hide hn12
  replace hst12 := hide hst12
  replace hon12 := hide hon12
  replace hok12 := hide hok12
  clear hR12 hO12 hz12
  go_upto_region 7 with fail
  obtain ⟨w12, hw12⟩ : ∃ x, x = (u12).alloc (.cells [.int .i64 (c12).step, .int .i64 (c12).x, .int .i64 (c12).y, .slice C12 n12 cc12].toArray 28) := ⟨_, rfl⟩
  have hg12 : (u12).grownBy w12 none := by rw [hw12]; exact gr_alloc (World.grownBy.refl _ _) _
  have hb12 : Box w12 (u12).heap.size 28 [.int .i64 (c12).step, .int .i64 (c12).x, .int .i64 (c12).y, .slice C12 n12 cc12] := by rw [hw12]; exact Box.new _ _ _
  have hxs12 := hb12.lt
  rw [← hw12]
  clear hw12
  obtain ⟨x12, hx12⟩ : ∃ x, x = (u12).heap.size := ⟨_, rfl⟩
  rw [← hx12] at hb12 hxs12 ⊢
  have hxl12 : (u12).heap.size ≤ x12 := by omega
  clear hx12
  replace hC12 := hC12.pure hg12
  have hv12 := hu12.t hg12
  clear hu12 hg12 hxs12 hxl12
  clear p0 p1 p2 p3 q0 q1 q2 q3 hcon
  replace hba0 := hba0.pure hv12
  replace hbb0 := hbb0.pure hv12
  replace hA := hA.pure hv12
  replace hB := hB.pure hv12
  replace hb6 := hb6.pure hv12
  replace hC6 := hC6.pure hv12
  replace hb8 := hb8.pure hv12
  replace hC8 := hC8.pure hv12
  replace hb10 := hb10.pure hv12
  replace hC10 := hC10.pure hv12
  replace hgw0 := hgw0.t hv12
  clear hv12
  obtain rfl : c8 = c6 := cells_same hok8.out hok6.out (by rw [hst8.out, hst6.out, hss.out]) (fun x y => by rw [hon8.out, hon6.out, Bool.or_comm])
  obtain rfl : n6 = n8 := hn6.out.trans hn8.out.symm
  obtain ⟨⟨p0, -⟩, ⟨p1, -⟩, ⟨p2, -⟩, ⟨p3, -⟩⟩ := box4_c hb6
  obtain ⟨⟨q0, -⟩, ⟨q1, -⟩, ⟨q2, -⟩, ⟨q3, -⟩⟩ := box4_c hb8
  have hSm := hide (sameCells_any c8 C6 n6 cc6 C8 cc8 w12 hC6.sl hC8.sl hn6.out.symm)
  go_wp2_with fail
  refine hSm.out.mono ?_
  rintro e w13 ⟨rfl, hg13⟩
  clear p0 p1 p2 p3 q0 q1 q2 q3 hSm hb8 hC8
  replace hba0 := hba0.pure hg13
  replace hbb0 := hbb0.pure hg13
  replace hA := hA.pure hg13
  replace hB := hB.pure hg13
  replace hb6 := hb6.pure hg13
  replace hC6 := hC6.pure hg13
  replace hb10 := hb10.pure hg13
  replace hC10 := hC10.pure hg13
  replace hb12 := hb12.pure hg13
  replace hC12 := hC12.pure hg13
  replace hgw0 := hgw0.t hg13
  clear hg13
  obtain ⟨⟨p0, -⟩, ⟨p1, -⟩, ⟨p2, -⟩, ⟨p3, -⟩⟩ := box4_c hb10
  obtain ⟨⟨q0, -⟩, ⟨q1, -⟩, ⟨q2, -⟩, ⟨q3, -⟩⟩ := box4_c hb12
  have hcon := hide (union_any c12 c10 C12 n12 cc12 C10 n10 cc10 w13 hC12 hC10)
  have hS3 : Hid (∀ x y, (onC c12 x y || onC c10 x y) = onC a x y) := fun x y => by
    rw [hon12.out, hon10.out]
    rcases onC a x y with _ | _ <;> rcases onC d x y with _ | _ <;> rfl
  have hnV : Hid (NearS (fun x y => onC c12 x y || onC c10 x y)) := fun x y h => hna.out x y (by rw [← hS3.out]; exact h)
  have hss2 := hide (hst12.out.trans hst10.out.symm)
  go_wp2_with fail
  refine (hcon.out).mono ?_
  rintro e u15 ⟨c15, er15, C15, cc15, rfl, hR15, hO15, hu15⟩
  obtain ⟨he15, hok15, hst15, hon15⟩ := res_right hR15 hok12.out hok10.out hss2.out hnV.out
  subst he15
  obtain ⟨n15, hn15⟩ : ∃ q, q = (c15).rows.length := ⟨_, rfl⟩
  rw [← hn15]
  have hz15 : ∀ s ∈ (c15).rows, s.size ≤ 4611686018427387904 := fun s h => by have := hR15.small s h; omega
  have hC15 := CArg.mk (w := u15) ((hO15.sl).mono (Nat.zero_le _)) hn15.symm hz15
  replace hn15 := hide hn15
  replace hst15 := hide hst15
  replace hon15 := hide hon15
  replace hok15 := hide hok15
  clear hR15 hO15 hz15
  go_upto_region 11 with fail
  obtain ⟨w15, hw15⟩ : ∃ x, x = (u15).alloc (.cells [.int .i64 (c15).step, .int .i64 (c15).x, .int .i64 (c15).y, .slice C15 n15 cc15].toArray 28) := ⟨_, rfl⟩
  have hg15 : (u15).grownBy w15 none := by rw [hw15]; exact gr_alloc (World.grownBy.refl _ _) _
  have hb15 : Box w15 (u15).heap.size 28 [.int .i64 (c15).step, .int .i64 (c15).x, .int .i64 (c15).y, .slice C15 n15 cc15] := by rw [hw15]; exact Box.new _ _ _
  have hxs15 := hb15.lt
  rw [← hw15]
  clear hw15
  obtain ⟨x15, hx15⟩ : ∃ x, x = (u15).heap.size := ⟨_, rfl⟩
  rw [← hx15] at hb15 hxs15 ⊢
  have hxl15 : (u15).heap.size ≤ x15 := by omega
  clear hx15
  replace hC15 := hC15.pure hg15
  have hv15 := hu15.t hg15
  clear hu15 hg15 hxs15 hxl15
  clear p0 p1 p2 p3 q0 q1 q2 q3 hcon
  obtain rfl : c15 = a := cells_same hok15.out hoka.out (by rw [hst15.out, hst12.out]) (fun x y => by rw [hon15.out, hS3.out])
  obtain rfl : n15 = n1 := hn15.out.trans hn1.out.symm
  have hcnt := sets_counts hon6.out hon10.out hon12.out
  have hl1 := cntS_le (onC c15)
  have hl2 := cntS_le (onC d)
  have hl3 := cntS_le (onC c10)
  obtain ⟨ka, hka⟩ : ∃ k : Int, (cntS (onC c15) : Int) = k := ⟨_, rfl⟩
  obtain ⟨kd, hkd⟩ : ∃ k : Int, (cntS (onC d) : Int) = k := ⟨_, rfl⟩
  obtain ⟨k3, hk3⟩ : ∃ k : Int, (cntS (onC c10) : Int) = k := ⟨_, rfl⟩
  have hkb : (0 ≤ ka ∧ ka ≤ 10000) ∧ (0 ≤ kd ∧ kd ≤ 10000) ∧ (0 ≤ k3 ∧ k3 ≤ 10000) := by omega
  rw [hka, hkd, hk3] at hcnt
  have hSm := hide (fun W (h : w15.grownBy W none) => sameCells_any c15 C15 n15 cc15 A1 cc1 W ((hC15.pure h).sl) (((hA.pure hv15).pure h).sl) hn15.out.symm)
  have hNa := hide (fun W (h : w15.grownBy W none) => countOf_any c15 A1 n15 cc1 ka W ((hA.pure hv15).pure h) hoka.out hna.out hka)
  have hNd := hide (fun W (h : w15.grownBy W none) => countOf_any d A2 n2 cc2 kd W ((hB.pure hv15).pure h) hokd.out hnd.out hkd)
  have hN10 := hide (fun W (h : w15.grownBy W none) => countOf_any c10 C10 n10 cc10 k3 W ((hC10.pure hv15).pure h) hok10.out (fun x y e => hnB.out x y ((hon10.out x y).symm.trans e)) hk3)
  have hN6 := hide (fun W (h : w15.grownBy W none) => countOf_any c8 C6 n6 cc6 (ka + kd - k3) W ((hC6.pure hv15).pure h) hok6.out (fun x y e => hnU.out x y ((hon6.out x y).symm.trans e)) hcnt.1)
  have hN12 := hide (fun W (h : w15.grownBy W none) => countOf_any c12 C12 n12 cc12 (ka - k3) W ((hC12.pure hv15).pure h) hok12.out (fun x y e => hnM.out x y ((hon12.out x y).symm.trans e)) hcnt.2)
  have hbx := hide (fun W (h : w15.grownBy W none) => And.intro (box4_c (hb15.pure h)) (And.intro (box4_c ((hba0.pure hv15).pure h)) (And.intro (box4_c ((hbb0.pure hv15).pure h)) (And.intro (box4_c ((hb6.pure hv15).pure h)) (And.intro (box4_c ((hb10.pure hv15).pure h)) (box4_c ((hb12.pure hv15).pure h)))))))
  have hgw := hgw0.t hv15
  clear hcnt hl1 hl2 hl3 hka hkd hk3 hC15 hA hB hC10 hC6 hC12 hb15 hba0 hbb0 hb6 hb10 hb12 hgw0 hv15
  refine wp_region_tree (fun wx => w15.grownBy wx none) [2, 2, 2, 1, 1, 0, 2, 2, 2, 1, 0, 2, 1, 0, 2, 1, 0, 2, 2, 1, 0, 2, 2, 2, 2, 2, 1, 0, 2, 1, 0, 2, 1, 0, 2, 2, 2, 2, 0, 2, 2] (.bl 0 (.bl 1 (.bl 2 (.bl 3 (.bl 4 (.ef 5 (.bl 6 (.bl 7 (.bl 8 (.bl 9 (.bl 11 (.bl 12 (.bl 14 (.bl 15 (.bl 18 (.bl 19 (.ef 10 (.ef 13 (.ef 16 (.bl 17 (.ef 20 (.bl 21 (.bl 22 (.bl 23 (.bl 24 (.bl 25 (.bl 26 (.bl 28 (.bl 29 (.bl 31 (.bl 32 (.ef 27 (.ef 30 (.ef 33 (.bl 34 (.bl 35 (.bl 36 (.bl 37 (.ef 38 (.bl 39 (.bl 40 .done))))))))))))))))))))))))))))))))))))))))) (by kernel_rfl) (by kernel_rfl) (gr_drew (World.grownBy.refl _ _)) ?_
  obtain ⟨u0, hu0⟩ : ∃ x, x = (w15).drew := ⟨_, rfl⟩
  rw [← hu0]
  have hgu0 : (w15).grownBy u0 none := by rw [hu0]; exact gr_drew (World.grownBy.refl _ _)
  clear hu0
  have hcur := hgu0
  refine tree_p rfl rfl rfl rfl _ rfl (by simp) (fun K hK => ?_)
  apply Exists.intro
  refine ⟨fun wq K' hK' => ?_, ?_⟩
  · go_wp2_with fail
    exact hK'
  go_simp
  refine hK _ ?_
  clear hK K
  refine tree_p rfl rfl rfl rfl _ rfl (by simp) (fun K hK => ?_)
  apply Exists.intro
  refine ⟨fun wq K' hK' => ?_, ?_⟩
  · go_wp2_with fail
    exact hK'
  go_simp
  refine hK _ ?_
  clear hK K
  refine tree_p rfl rfl rfl rfl _ rfl (by simp) (fun K hK => ?_)
  apply Exists.intro
  refine ⟨fun wq K' hK' => ?_, ?_⟩
  · go_wp2_with fail
    exact hK'
  go_simp
  refine hK _ ?_
  clear hK K
  refine tree_b rfl rfl rfl rfl _ rfl (by simp) (fun K hK => ?_)
  apply Exists.intro
  refine ⟨fun wq hq K' hK' => ?_, ?_⟩
  · obtain ⟨⟨⟨e0, -⟩, ⟨e1, -⟩, ⟨e2, -⟩, ⟨e3, -⟩⟩, ⟨⟨f0, -⟩, ⟨f1, -⟩, ⟨f2, -⟩, ⟨f3, -⟩⟩, ⟨⟨g0, -⟩, ⟨g1, -⟩, ⟨g2, -⟩, ⟨g3, -⟩⟩, ⟨⟨i0, -⟩, ⟨i1, -⟩, ⟨i2, -⟩, ⟨i3, -⟩⟩, ⟨⟨j0, -⟩, ⟨j1, -⟩, ⟨j2, -⟩, ⟨j3, -⟩⟩, ⟨⟨m0, -⟩, ⟨m1, -⟩, ⟨m2, -⟩, ⟨m3, -⟩⟩⟩ := hbx.out wq hq
    go_wp2_with fail
    exact hK'
  go_simp
  refine hK _ ?_
  clear hK K
  refine tree_b rfl rfl rfl rfl _ rfl (by simp) (fun K hK => ?_)
  apply Exists.intro
  refine ⟨fun wq hq K' hK' => ?_, ?_⟩
  · obtain ⟨⟨⟨e0, -⟩, ⟨e1, -⟩, ⟨e2, -⟩, ⟨e3, -⟩⟩, ⟨⟨f0, -⟩, ⟨f1, -⟩, ⟨f2, -⟩, ⟨f3, -⟩⟩, ⟨⟨g0, -⟩, ⟨g1, -⟩, ⟨g2, -⟩, ⟨g3, -⟩⟩, ⟨⟨i0, -⟩, ⟨i1, -⟩, ⟨i2, -⟩, ⟨i3, -⟩⟩, ⟨⟨j0, -⟩, ⟨j1, -⟩, ⟨j2, -⟩, ⟨j3, -⟩⟩, ⟨⟨m0, -⟩, ⟨m1, -⟩, ⟨m2, -⟩, ⟨m3, -⟩⟩⟩ := hbx.out wq hq
    go_wp2_with fail
    exact hK'
  go_simp
  refine hK _ ?_
  clear hK K
  refine tree_e rfl rfl (fun K hK => ?_)
  go_wp2_with fail
  refine (hSm.out u0 hcur).mono ?_
  rintro e u5 ⟨rfl, hg5⟩
  go_wp2_with fail
  try go_simp
  refine hK _ _ (hcur.t hg5) ?_
  clear hK K
  replace hcur := hcur.t hg5
  clear hg5
  refine tree_p rfl rfl rfl rfl _ rfl (by simp) (fun K hK => ?_)
  apply Exists.intro
  refine ⟨fun wq K' hK' => ?_, ?_⟩
  · go_wp2_with fail
    exact hK'
  go_simp
  refine hK _ ?_
  clear hK K
  refine tree_p rfl rfl rfl rfl _ rfl (by simp) (fun K hK => ?_)
  apply Exists.intro
  refine ⟨fun wq K' hK' => ?_, ?_⟩
  · go_wp2_with fail
    exact hK'
  go_simp
  refine hK _ ?_
  clear hK K
  refine tree_p rfl rfl rfl rfl _ rfl (by simp) (fun K hK => ?_)
  apply Exists.intro
  refine ⟨fun wq K' hK' => ?_, ?_⟩
  · go_wp2_with fail
    exact hK'
  go_simp
  refine hK _ ?_
  clear hK K
  refine tree_b rfl rfl rfl rfl _ rfl (by simp) (fun K hK => ?_)
  apply Exists.intro
  refine ⟨fun wq hq K' hK' => ?_, ?_⟩
  · obtain ⟨⟨⟨e0, -⟩, ⟨e1, -⟩, ⟨e2, -⟩, ⟨e3, -⟩⟩, ⟨⟨f0, -⟩, ⟨f1, -⟩, ⟨f2, -⟩, ⟨f3, -⟩⟩, ⟨⟨g0, -⟩, ⟨g1, -⟩, ⟨g2, -⟩, ⟨g3, -⟩⟩, ⟨⟨i0, -⟩, ⟨i1, -⟩, ⟨i2, -⟩, ⟨i3, -⟩⟩, ⟨⟨j0, -⟩, ⟨j1, -⟩, ⟨j2, -⟩, ⟨j3, -⟩⟩, ⟨⟨m0, -⟩, ⟨m1, -⟩, ⟨m2, -⟩, ⟨m3, -⟩⟩⟩ := hbx.out wq hq
    go_wp2_with fail
    exact hK'
  go_simp
  refine hK _ ?_
  clear hK K
  refine tree_p rfl rfl rfl rfl _ rfl (by simp) (fun K hK => ?_)
  apply Exists.intro
  refine ⟨fun wq K' hK' => ?_, ?_⟩
  · go_wp2_with fail
    exact hK'
  go_simp
  refine hK _ ?_
  clear hK K
  refine tree_b rfl rfl rfl rfl _ rfl (by simp) (fun K hK => ?_)
  apply Exists.intro
  refine ⟨fun wq hq K' hK' => ?_, ?_⟩
  · obtain ⟨⟨⟨e0, -⟩, ⟨e1, -⟩, ⟨e2, -⟩, ⟨e3, -⟩⟩, ⟨⟨f0, -⟩, ⟨f1, -⟩, ⟨f2, -⟩, ⟨f3, -⟩⟩, ⟨⟨g0, -⟩, ⟨g1, -⟩, ⟨g2, -⟩, ⟨g3, -⟩⟩, ⟨⟨i0, -⟩, ⟨i1, -⟩, ⟨i2, -⟩, ⟨i3, -⟩⟩, ⟨⟨j0, -⟩, ⟨j1, -⟩, ⟨j2, -⟩, ⟨j3, -⟩⟩, ⟨⟨m0, -⟩, ⟨m1, -⟩, ⟨m2, -⟩, ⟨m3, -⟩⟩⟩ := hbx.out wq hq
    go_wp2_with fail
    exact hK'
  go_simp
  refine hK _ ?_
  clear hK K
  refine tree_p rfl rfl rfl rfl _ rfl (by simp) (fun K hK => ?_)
  apply Exists.intro
  refine ⟨fun wq K' hK' => ?_, ?_⟩
  · go_wp2_with fail
    exact hK'
  go_simp
  refine hK _ ?_
  clear hK K
  refine tree_b rfl rfl rfl rfl _ rfl (by simp) (fun K hK => ?_)
  apply Exists.intro
  refine ⟨fun wq hq K' hK' => ?_, ?_⟩
  · obtain ⟨⟨⟨e0, -⟩, ⟨e1, -⟩, ⟨e2, -⟩, ⟨e3, -⟩⟩, ⟨⟨f0, -⟩, ⟨f1, -⟩, ⟨f2, -⟩, ⟨f3, -⟩⟩, ⟨⟨g0, -⟩, ⟨g1, -⟩, ⟨g2, -⟩, ⟨g3, -⟩⟩, ⟨⟨i0, -⟩, ⟨i1, -⟩, ⟨i2, -⟩, ⟨i3, -⟩⟩, ⟨⟨j0, -⟩, ⟨j1, -⟩, ⟨j2, -⟩, ⟨j3, -⟩⟩, ⟨⟨m0, -⟩, ⟨m1, -⟩, ⟨m2, -⟩, ⟨m3, -⟩⟩⟩ := hbx.out wq hq
    go_wp2_with fail
    exact hK'
  go_simp
  refine hK _ ?_
  clear hK K
  refine tree_p rfl rfl rfl rfl _ rfl (by simp) (fun K hK => ?_)
  apply Exists.intro
  refine ⟨fun wq K' hK' => ?_, ?_⟩
  · go_wp2_with fail
    exact hK'
  go_simp
  refine hK _ ?_
  clear hK K
  refine tree_b rfl rfl rfl rfl _ rfl (by simp) (fun K hK => ?_)
  apply Exists.intro
  refine ⟨fun wq hq K' hK' => ?_, ?_⟩
  · obtain ⟨⟨⟨e0, -⟩, ⟨e1, -⟩, ⟨e2, -⟩, ⟨e3, -⟩⟩, ⟨⟨f0, -⟩, ⟨f1, -⟩, ⟨f2, -⟩, ⟨f3, -⟩⟩, ⟨⟨g0, -⟩, ⟨g1, -⟩, ⟨g2, -⟩, ⟨g3, -⟩⟩, ⟨⟨i0, -⟩, ⟨i1, -⟩, ⟨i2, -⟩, ⟨i3, -⟩⟩, ⟨⟨j0, -⟩, ⟨j1, -⟩, ⟨j2, -⟩, ⟨j3, -⟩⟩, ⟨⟨m0, -⟩, ⟨m1, -⟩, ⟨m2, -⟩, ⟨m3, -⟩⟩⟩ := hbx.out wq hq
    go_wp2_with fail
    exact hK'
  go_simp
  refine hK _ ?_
  clear hK K
  refine tree_e rfl rfl (fun K hK => ?_)
  go_wp2_with fail
  refine (hN6.out u5 hcur).mono ?_
  rintro e u10 ⟨rfl, hg10⟩
  go_wp2_with fail
  try go_simp
  refine hK _ _ (hcur.t hg10) ?_
  clear hK K
  replace hcur := hcur.t hg10
  clear hg10
  refine tree_e rfl rfl (fun K hK => ?_)
  go_wp2_with fail
  refine (hNa.out u10 hcur).mono ?_
  rintro e u13 ⟨rfl, hg13⟩
  go_wp2_with fail
  try go_simp
  refine hK _ _ (hcur.t hg13) ?_
  clear hK K
  replace hcur := hcur.t hg13
  clear hg13
  refine tree_e rfl rfl (fun K hK => ?_)
  go_wp2_with fail
  refine (hNd.out u13 hcur).mono ?_
  rintro e u16 ⟨rfl, hg16⟩
  go_wp2_with fail
  try go_simp
  refine hK _ _ (hcur.t hg16) ?_
  clear hK K
  replace hcur := hcur.t hg16
  clear hg16
  refine tree_p rfl rfl rfl rfl _ rfl (by simp) (fun K hK => ?_)
  apply Exists.intro
  refine ⟨fun wq K' hK' => ?_, ?_⟩
  · go_wp2_with fail
    exact hK'
  go_simp
  refine hK _ ?_
  clear hK K
  refine tree_e rfl rfl (fun K hK => ?_)
  go_wp2_with fail
  refine (hN10.out u16 hcur).mono ?_
  rintro e u20 ⟨rfl, hg20⟩
  go_wp2_with fail
  try go_simp
  refine hK _ _ (hcur.t hg20) ?_
  clear hK K
  replace hcur := hcur.t hg20
  clear hg20
  refine tree_p rfl rfl rfl rfl _ rfl (by simp) (fun K hK => ?_)
  apply Exists.intro
  refine ⟨fun wq K' hK' => ?_, ?_⟩
  · go_wp2_with fail
    exact hK'
  go_simp
  refine hK _ ?_
  clear hK K
  refine tree_p rfl rfl rfl rfl _ rfl (by simp) (fun K hK => ?_)
  apply Exists.intro
  refine ⟨fun wq K' hK' => ?_, ?_⟩
  · go_wp2_with fail
    exact hK'
  go_simp
  refine hK _ ?_
  clear hK K
  refine tree_p rfl rfl rfl rfl _ rfl (by simp) (fun K hK => ?_)
  apply Exists.intro
  refine ⟨fun wq K' hK' => ?_, ?_⟩
  · go_wp2_with fail
    exact hK'
  go_simp
  refine hK _ ?_
  clear hK K
  refine tree_p rfl rfl rfl rfl _ rfl (by simp) (fun K hK => ?_)
  apply Exists.intro
  refine ⟨fun wq K' hK' => ?_, ?_⟩
  · go_wp2_with fail
    exact hK'
  go_simp
  refine hK _ ?_
  clear hK K
  refine tree_p rfl rfl rfl rfl _ rfl (by simp) (fun K hK => ?_)
  apply Exists.intro
  refine ⟨fun wq K' hK' => ?_, ?_⟩
  · go_wp2_with fail
    exact hK'
  go_simp
  refine hK _ ?_
  clear hK K
  refine tree_b rfl rfl rfl rfl _ rfl (by simp) (fun K hK => ?_)
  apply Exists.intro
  refine ⟨fun wq hq K' hK' => ?_, ?_⟩
  · obtain ⟨⟨⟨e0, -⟩, ⟨e1, -⟩, ⟨e2, -⟩, ⟨e3, -⟩⟩, ⟨⟨f0, -⟩, ⟨f1, -⟩, ⟨f2, -⟩, ⟨f3, -⟩⟩, ⟨⟨g0, -⟩, ⟨g1, -⟩, ⟨g2, -⟩, ⟨g3, -⟩⟩, ⟨⟨i0, -⟩, ⟨i1, -⟩, ⟨i2, -⟩, ⟨i3, -⟩⟩, ⟨⟨j0, -⟩, ⟨j1, -⟩, ⟨j2, -⟩, ⟨j3, -⟩⟩, ⟨⟨m0, -⟩, ⟨m1, -⟩, ⟨m2, -⟩, ⟨m3, -⟩⟩⟩ := hbx.out wq hq
    go_wp2_with fail
    exact hK'
  go_simp
  refine hK _ ?_
  clear hK K
  refine tree_p rfl rfl rfl rfl _ rfl (by simp) (fun K hK => ?_)
  apply Exists.intro
  refine ⟨fun wq K' hK' => ?_, ?_⟩
  · go_wp2_with fail
    exact hK'
  go_simp
  refine hK _ ?_
  clear hK K
  refine tree_b rfl rfl rfl rfl _ rfl (by simp) (fun K hK => ?_)
  apply Exists.intro
  refine ⟨fun wq hq K' hK' => ?_, ?_⟩
  · obtain ⟨⟨⟨e0, -⟩, ⟨e1, -⟩, ⟨e2, -⟩, ⟨e3, -⟩⟩, ⟨⟨f0, -⟩, ⟨f1, -⟩, ⟨f2, -⟩, ⟨f3, -⟩⟩, ⟨⟨g0, -⟩, ⟨g1, -⟩, ⟨g2, -⟩, ⟨g3, -⟩⟩, ⟨⟨i0, -⟩, ⟨i1, -⟩, ⟨i2, -⟩, ⟨i3, -⟩⟩, ⟨⟨j0, -⟩, ⟨j1, -⟩, ⟨j2, -⟩, ⟨j3, -⟩⟩, ⟨⟨m0, -⟩, ⟨m1, -⟩, ⟨m2, -⟩, ⟨m3, -⟩⟩⟩ := hbx.out wq hq
    go_wp2_with fail
    exact hK'
  go_simp
  refine hK _ ?_
  clear hK K
  refine tree_p rfl rfl rfl rfl _ rfl (by simp) (fun K hK => ?_)
  apply Exists.intro
  refine ⟨fun wq K' hK' => ?_, ?_⟩
  · go_wp2_with fail
    exact hK'
  go_simp
  refine hK _ ?_
  clear hK K
  refine tree_b rfl rfl rfl rfl _ rfl (by simp) (fun K hK => ?_)
  apply Exists.intro
  refine ⟨fun wq hq K' hK' => ?_, ?_⟩
  · obtain ⟨⟨⟨e0, -⟩, ⟨e1, -⟩, ⟨e2, -⟩, ⟨e3, -⟩⟩, ⟨⟨f0, -⟩, ⟨f1, -⟩, ⟨f2, -⟩, ⟨f3, -⟩⟩, ⟨⟨g0, -⟩, ⟨g1, -⟩, ⟨g2, -⟩, ⟨g3, -⟩⟩, ⟨⟨i0, -⟩, ⟨i1, -⟩, ⟨i2, -⟩, ⟨i3, -⟩⟩, ⟨⟨j0, -⟩, ⟨j1, -⟩, ⟨j2, -⟩, ⟨j3, -⟩⟩, ⟨⟨m0, -⟩, ⟨m1, -⟩, ⟨m2, -⟩, ⟨m3, -⟩⟩⟩ := hbx.out wq hq
    go_wp2_with fail
    exact hK'
  go_simp
  refine hK _ ?_
  clear hK K
  refine tree_e rfl rfl (fun K hK => ?_)
  go_wp2_with fail
  refine (hN12.out u20 hcur).mono ?_
  rintro e u27 ⟨rfl, hg27⟩
  go_wp2_with fail
  try go_simp
  refine hK _ _ (hcur.t hg27) ?_
  clear hK K
  replace hcur := hcur.t hg27
  clear hg27
  refine tree_e rfl rfl (fun K hK => ?_)
  go_wp2_with fail
  refine (hNa.out u27 hcur).mono ?_
  rintro e u30 ⟨rfl, hg30⟩
  go_wp2_with fail
  try go_simp
  refine hK _ _ (hcur.t hg30) ?_
  clear hK K
  replace hcur := hcur.t hg30
  clear hg30
  refine tree_e0 (by kernel_rfl) rfl rfl (fun K hK => ?_)
  go_wp2_with fail
  refine (hN10.out u30 hcur).mono ?_
  rintro e u33 ⟨rfl, hg33⟩
  go_wp2_with fail
  try go_simp
  refine hK _ _ trivial ?_
  clear hK K
  replace hcur := hcur.t hg33
  clear hg33
  refine tree_p rfl rfl rfl rfl _ rfl (by simp) (fun K hK => ?_)
  apply Exists.intro
  refine ⟨fun wq K' hK' => ?_, ?_⟩
  · go_wp2_with fail
    exact hK'
  go_simp
  refine hK _ ?_
  clear hK K
  refine tree_p rfl rfl rfl rfl _ rfl (by simp) (fun K hK => ?_)
  apply Exists.intro
  refine ⟨fun wq K' hK' => ?_, ?_⟩
  · go_wp2_with fail
    exact hK'
  go_simp
  refine hK _ ?_
  clear hK K
  refine tree_p rfl rfl rfl rfl _ rfl (by simp) (fun K hK => ?_)
  apply Exists.intro
  refine ⟨fun wq K' hK' => ?_, ?_⟩
  · go_wp2_with fail
    exact hK'
  go_simp
  refine hK _ ?_
  clear hK K
  refine tree_p rfl rfl rfl rfl _ rfl (by simp) (fun K hK => ?_)
  apply Exists.intro
  refine ⟨fun wq K' hK' => ?_, ?_⟩
  · go_wp2_with fail
    exact hK'
  go_simp
  refine hK _ ?_
  clear hK K
  refine tree_e0 (by kernel_rfl) rfl rfl (fun K hK => ?_)
  go_wp2_with fail
  refine (ready_any _).mono ?_
  rintro e u38 ⟨rfl, hg38⟩
  go_wp2_with fail
  try go_simp
  refine hK _ _ trivial ?_
  clear hK K
  replace hcur := hcur.t hg38
  refine tree_p rfl rfl rfl rfl _ rfl (by simp) (fun K hK => ?_)
  apply Exists.intro
  refine ⟨fun wq K' hK' => ?_, ?_⟩
  · go_wp2_with fail
    exact hK'
  go_simp
  refine hK _ ?_
  clear hK K
  refine tree_p rfl rfl rfl rfl _ rfl (by simp) (fun K hK => ?_)
  apply Exists.intro
  refine ⟨fun wq K' hK' => ?_, ?_⟩
  · go_wp2_with fail
    exact hK'
  go_simp
  refine hK _ ?_
  clear hK K
  refine tree_done ?_
  go_wp2_with fail
  go_ret
  exact ⟨rfl, hgw.t hcur⟩

end Go.Proofs.YtlfcgobmhbemoaaGreatDoor
