/- Contracts of functions that this seat's laws reach, each: what one call returns and what it leaves in memory; no condition beyond each theorem's own hypotheses. -/
import Derived.Test.YtlfcgobmhbemoaaGreatDoorZqCelAB
import Derived.Test.YtlfcgobmhbemoaaGreatDoorZqCelAA
import Derived.Test.YtlfcgobmhbemoaaGreatDoorZqCelZ
set_option linter.unusedVariables false
set_option linter.unusedSimpArgs false
namespace Go.Proofs.YtlfcgobmhbemoaaGreatDoor
open Go Go.RowKit Go.Bl

theorem cc1_any (x y : Bool) (w : World) : Calls Tryz.prog 11 #[.bool x, .bool y] w fun e w' => e = .returned (.bool (x || y)) ∧ w.grownBy w' none := by
  cases x <;> cases y <;> (go_enter Tryz.func11, Tryz.ntmps11; go_wp2; go_ret; exact ⟨rfl, World.grownBy.refl _ _⟩)

theorem cc2_any (x y : Bool) (w : World) : Calls Tryz.prog 13 #[.bool x, .bool y] w fun e w' => e = .returned (.bool (x && y)) ∧ w.grownBy w' none := by
  cases x <;> cases y <;> (go_enter Tryz.func13, Tryz.ntmps13; go_wp2; go_ret; exact ⟨rfl, World.grownBy.refl _ _⟩)

theorem cc3_any (x y : Bool) (w : World) : Calls Tryz.prog 15 #[.bool x, .bool y] w fun e w' => e = .returned (.bool (x && !y)) ∧ w.grownBy w' none := by
  cases x <;> cases y <;> (go_enter Tryz.func15, Tryz.ntmps15; go_wp2; go_ret; exact ⟨rfl, World.grownBy.refl _ _⟩)

set_option maxHeartbeats 8000000 in
set_option maxRecDepth 100000 in
theorem cellsCombined_law (A : Option Addr) (n c : Nat) (L : List Int) (w : World) (hL : Sl w 0 A L) (hn : L.length = n) :
    Calls Tryz.prog 3 #[.slice A n c] w fun e w' => e = .returned (.bool true) ∧ w.grownBy w' none := by
  have hs0 := strm_new (c := c) 25 hL hn
  have hg0 := gr_alloc (World.grownBy.refl w none) (.cells #[.slice A n c, .int .i64 0] 25)
  have hS0 := SOut.refl hs0
  have hR := hide (aCells_any _ 0 2 _ hs0 (by omega) (by omega))
  go_enter Tryz.func3, Tryz.ntmps3
  go_wp2_with fail
  refine hR.out.mono ?_
  rintro e w1 ⟨c1, A1, cc1, rfl, hl1, hz1, ho1⟩
  obtain ⟨n1, hn1⟩ : ∃ q, q = c1.rows.length := ⟨_, rfl⟩
  rw [← hn1]
  replace hn1 := hide hn1
  replace hz1 := hide hz1
  obtain ⟨b, hb⟩ : ∃ q, q = w.heap.size := ⟨_, rfl⟩
  rw [← hb] at hl1 ho1 ⊢
  have hbw : b < w1.heap.size := ho1.lt
  replace hb : w.heap.size ≤ b := by omega
  have hgb : w.grownBy w1 none := gr_new hg0 ho1.1 (by omega)
  have hl := sl_intsAt w1 (b + 1) 3 [2, 2, 2, 4] _ rfl (by omega) (by simp [maxLen])
  simp only [List.map_cons, List.map_nil] at hl
  have hga := gr_alloc (World.grownBy.refl w1 none) (.cells #[.int .i64 2, .int .i64 2, .int .i64 2, .int .i64 4] 3)
  have hP := hide (pick_any b (0 + 80) _ 4 4 _ _ (ho1.2.pure hga) (by omega) hl rfl (by omega))
  clear hR hs0 hS0 hL hl
  go_wp2_with fail
  refine hP.out.mono ?_
  rintro e w2 ⟨st, rfl, hst, ho2⟩
  have hst2 : 2 ≤ st ∧ st ≤ 10000 := by
    simp only [List.mem_cons, List.not_mem_nil, or_false] at hst
    omega
  clear hst hP
  have hR := hide (aCells_any b (0 + 80 + 1) st w2 ho2.2 (by omega) hst2)
  have hl2' := (hl1.pure hga).gr ho2.1 (fun q e => by injection e; omega)
  have hgw2 := gr_new (hgb.t hga) ho2.1 (by omega)
  clear hl1 ho1 ho2 hga hgb
  go_wp2_with fail
  refine hR.out.mono ?_
  rintro e w3 ⟨c2, A2, cc2, rfl, hl3, hz2, ho3⟩
  obtain ⟨n2, hn2⟩ : ∃ q, q = c2.rows.length := ⟨_, rfl⟩
  rw [← hn2]
  replace hn2 := hide hn2
  replace hz2 := hide hz2
  have hl1 := hl2'.gr ho3.1 (fun q e => by injection e; omega)
  have hgw3 := gr_new hgw2 ho3.1 (by omega)
  have hbw3 : b < w3.heap.size := ho3.lt
  clear hR hl2' hgw2
  go_upto_region 3 with fail
  obtain ⟨w0, hw0⟩ : ∃ x, x = ((w3).alloc (.cells [.int .i64 (c1).step, .int .i64 (c1).x, .int .i64 (c1).y, .slice A1 n1 cc1].toArray 28)).alloc (.cells [.int .i64 (c2).step, .int .i64 (c2).x, .int .i64 (c2).y, .slice A2 n2 cc2].toArray 28) := ⟨_, rfl⟩
  have hba0 : Box w0 (w3).heap.size 28 [.int .i64 (c1).step, .int .i64 (c1).x, .int .i64 (c1).y, .slice A1 n1 cc1] := by
    rw [hw0]; exact (Box.new (w3) [.int .i64 (c1).step, .int .i64 (c1).x, .int .i64 (c1).y, .slice A1 n1 cc1] 28).pure (gr_alloc (World.grownBy.refl _ _) _)
  have hbb0 : Box w0 ((w3).heap.size + 1) 28 [.int .i64 (c2).step, .int .i64 (c2).x, .int .i64 (c2).y, .slice A2 n2 cc2] := by
    have h := Box.new ((w3).alloc (.cells [.int .i64 (c1).step, .int .i64 (c1).x, .int .i64 (c1).y, .slice A1 n1 cc1].toArray 28)) [.int .i64 (c2).step, .int .i64 (c2).x, .int .i64 (c2).y, .slice A2 n2 cc2] 28
    rw [show ((w3).alloc (.cells [.int .i64 (c1).step, .int .i64 (c1).x, .int .i64 (c1).y, .slice A1 n1 cc1].toArray 28)).heap.size = (w3).heap.size + 1 by simp] at h
    rw [hw0]; exact h
  have hg0 : (w3).grownBy w0 none := by rw [hw0]; exact (by repeat (first | exact World.grownBy.refl _ _ | assumption | refine gr_alloc ?_ _ | (apply gr_tail; assumption) | refine gr_drewN ?_ _ | refine gr_drew ?_))
  rw [← hw0]
  clear hw0
  obtain ⟨xb0, hxb0⟩ : ∃ x, x = (w3).heap.size + 1 := ⟨_, rfl⟩
  rw [← hxb0] at hbb0 ⊢
  obtain ⟨xa0, hxa0⟩ : ∃ x, x = (w3).heap.size := ⟨_, rfl⟩
  rw [← hxa0] at hba0 ⊢
  have hxn0 : xa0 ≠ xb0 := by omega
  replace hxa0 : (w3).heap.size ≤ xa0 := by omega
  replace hxb0 : (w3).heap.size ≤ xb0 := by omega
  have hl1a := hl1.pure hg0
  have hl2a := hl3.pure hg0
  have hs3 := ho3.2.pure hg0
  have hgw0 := hgw3.t hg0
  have hxab : xa0 ≠ b := by omega
  have hxbb : xb0 ≠ b := by omega
  have hbw0 : b < w0.heap.size := by have := hg0.size; omega
  have hgr0 := gr_any (r := some b) hg0
  clear hl3 ho3 hgw3 hg0 hxa0 hbw
  go_wp2_with fail
  refine (flip_any b _ 12 w0 hs3 (by omega) (by omega)).mono ?_
  rintro e w4 ⟨v, rfl, ho4⟩
  have hba4 := hba0.gr ho4.1 (by intro e; injection e; omega)
  have hbb4 := hbb0.gr ho4.1 (by intro e; injection e; omega)
  have hl1b := hl1a.gr ho4.1 (fun q e => by injection e; omega)
  have hl2b := hl2a.gr ho4.1 (fun q e => by injection e; omega)
  have hs4 := ho4.2
  have hgr4 := gr_trans hgr0 ho4.1
  have hgw4 := gr_new hgw0 ho4.1 (by omega)
  have hA := CArg.mk (w := w4) (hl1b.mono (Nat.zero_le _)) hn1.out.symm (fun s h => by have := hz1.out s h; omega)
  have hbw4 : b < w4.heap.size := ho4.lt
  clear hl1a hl2a hs3 hgw0 hba0 hbb0 ho4
  cases v
  · clear hl1 hgr4 hgr0
    have hB := CArg.mk (w := w4) (hl2b.mono (Nat.zero_le _)) hn2.out.symm (fun s h => by have := hz2.out s h; omega)
    clear hl2b hs4
    have hbx := hide (fun wx (h : (w4).grownBy wx none) => And.intro (box4_c ((hba4).pure h)) (box4_c ((hbb4).pure h)))
    have hU := hide (fun wx (h : (w4).grownBy wx none) => combinedLaw_any c1 c2 A1 n1 cc1 A2 n2 cc2 (fun x y => onC c1 x y || onC c2 x y) (fun x y => x || y) 10 11 wx ((hA).pure h) ((hB).pure h)
      (fun xs wx => run_enter Tryz.func10 (by kernel_rfl) rfl xs wx) (fun wy hy => union_any c1 c2 A1 n1 cc1 A2 n2 cc2 wy ((hA).pure (h.t hy)) ((hB).pure (h.t hy)))
      (fun xs wx => run_enter Tryz.func11 (by kernel_rfl) rfl xs wx) (fun x y wx => cc1_any x y wx) (fun x y => by simp))
    have hV := hide (fun wx (h : (w4).grownBy wx none) => combinedLaw_any c1 c2 A1 n1 cc1 A2 n2 cc2 (fun x y => onC c1 x y && onC c2 x y) (fun x y => x && y) 12 13 wx ((hA).pure h) ((hB).pure h)
      (fun xs wx => run_enter Tryz.func12 (by kernel_rfl) rfl xs wx) (fun wy hy => both_any c1 c2 A1 n1 cc1 A2 n2 cc2 wy ((hA).pure (h.t hy)) ((hB).pure (h.t hy)))
      (fun xs wx => run_enter Tryz.func13 (by kernel_rfl) rfl xs wx) (fun x y wx => cc2_any x y wx) (fun x y => by rcases onC c1 x y with _ | _ <;> rcases onC c2 x y with _ | _ <;> rfl))
    have hM := hide (fun wx (h : (w4).grownBy wx none) => combinedLaw_any c1 c2 A1 n1 cc1 A2 n2 cc2 (fun x y => onC c1 x y && !onC c2 x y) (fun x y => x && !y) 14 15 wx ((hA).pure h) ((hB).pure h)
      (fun xs wx => run_enter Tryz.func14 (by kernel_rfl) rfl xs wx) (fun wy hy => minus_any c1 c2 A1 n1 cc1 A2 n2 cc2 wy ((hA).pure (h.t hy)) ((hB).pure (h.t hy)))
      (fun xs wx => run_enter Tryz.func15 (by kernel_rfl) rfl xs wx) (fun x y wx => cc3_any x y wx) (fun x y => by rcases onC c1 x y with _ | _ <;> rcases onC c2 x y with _ | _ <;> rfl))
    have hcur := World.grownBy.refl w4 none
    obtain ⟨⟨⟨p0, -⟩, ⟨p1, -⟩, ⟨p2, -⟩, ⟨p3, -⟩⟩, ⟨⟨q0, -⟩, ⟨q1, -⟩, ⟨q2, -⟩, ⟨q3, -⟩⟩⟩ := hbx.out _ hcur
    go_wp2_with fail
    refine (hU.out _ hcur).mono ?_
    rintro e wu ⟨rfl, hgu⟩
    clear p0 p1 p2 p3 q0 q1 q2 q3 hcur hU
    obtain ⟨⟨⟨p0, -⟩, ⟨p1, -⟩, ⟨p2, -⟩, ⟨p3, -⟩⟩, ⟨⟨q0, -⟩, ⟨q1, -⟩, ⟨q2, -⟩, ⟨q3, -⟩⟩⟩ := hbx.out _ hgu
    go_wp2_with fail
    refine (hV.out _ hgu).mono ?_
    rintro e wv ⟨rfl, hgv⟩
    replace hgv := hgu.t hgv
    clear p0 p1 p2 p3 q0 q1 q2 q3 hgu hV
    obtain ⟨⟨⟨p0, -⟩, ⟨p1, -⟩, ⟨p2, -⟩, ⟨p3, -⟩⟩, ⟨⟨q0, -⟩, ⟨q1, -⟩, ⟨q2, -⟩, ⟨q3, -⟩⟩⟩ := hbx.out _ hgv
    go_wp2_with fail
    refine (hM.out _ hgv).mono ?_
    rintro e wm ⟨rfl, hgm⟩
    replace hgm := hgv.t hgm
    clear p0 p1 p2 p3 q0 q1 q2 q3 hgv hM
    go_wp2_with fail
    refine (regioned_any wm).mono ?_
    rintro e wr ⟨rfl, hgr⟩
    go_wp2_with fail
    go_ret
    exact ⟨rfl, (hgw4).t (hgm.t hgr)⟩
  · have hl := sl_intsAt w4 (b + 1) 3 [400, 404, 800] _ rfl (by omega) (by simp [maxLen])
    simp only [List.map_cons, List.map_nil] at hl
    have hga := gr_alloc (World.grownBy.refl w4 none) (.cells #[.int .i64 400, .int .i64 404, .int .i64 800] 3)
    have hP := hide (pick_any b _ _ 3 3 _ _ (hs4.pure hga) (by omega) hl rfl (by omega))
    clear hl hl2b
    go_wp2_with fail
    refine hP.out.mono ?_
    rintro e w5 ⟨px, rfl, -, ho5⟩
    have hba5 := (hba4.pure hga).gr ho5.1 (by intro e; injection e; omega)
    have hbb5 := (hbb4.pure hga).gr ho5.1 (by intro e; injection e; omega)
    have hgw5 := gr_new (hgw4.t hga) ho5.1 (by omega)
    have hgr5 := gr_trans (gr_trans hgr4 (gr_any hga)) ho5.1
    have hbw5 : b < w5.heap.size := ho5.lt
    have hl := sl_intsAt w5 (b + 1) 3 [0, 396, 400] _ rfl (by omega) (by simp [maxLen])
    simp only [List.map_cons, List.map_nil] at hl
    have hgb := gr_alloc (World.grownBy.refl w5 none) (.cells #[.int .i64 0, .int .i64 396, .int .i64 400] 3)
    have hP2 := hide (pick_any b _ _ 3 3 _ _ (ho5.2.pure hgb) (by omega) hl rfl (by omega))
    clear hl hP hA hl1b hba4 hbb4 hga hgw4 hs4
    go_wp2_with fail
    refine hP2.out.mono ?_
    rintro e w6 ⟨py, rfl, -, ho6⟩
    have hba6 := (hba5.pure hgb).gr ho6.1 (by intro e; injection e; omega)
    have hbb6 := (hbb5.pure hgb).gr ho6.1 (by intro e; injection e; omega)
    have hgr6 := gr_trans (gr_trans hgr5 (gr_any hgb)) ho6.1
    have hgw6 := gr_new (hgw5.t hgb) ho6.1 (by omega)
    clear hP2 hgb ho6 ho5 hba5 hbb5 hgw5
    have hbb7 := hbb6.pure (gr_alloc (World.grownBy.refl w6 none) (.cells #[.string ⟨#[35]⟩] 9))
    obtain ⟨⟨d0, f0⟩, ⟨d1, f1⟩, ⟨d2, f2⟩, ⟨d3, f3⟩⟩ := box4_c hbb7
    have hxl := hide hbb6.lt
    clear hbb7
    go_upto_region 5 with fail
    clear d0 d1 d2 d3 f0 f1 f2 f3
    obtain ⟨w7, hw7⟩ : ∃ x, x = w6.alloc (.cells #[.string ⟨#[35]⟩] 9) := ⟨_, rfl⟩
    have hg7 : w6.grownBy w7 none := by rw [hw7]; exact gr_alloc (World.grownBy.refl _ _) _
    have hSl : Sl w7 (xb0 + 1) (some ⟨w6.heap.size, 0, none⟩) ([⟨#[35]⟩] : List ByteArray) := by rw [hw7]; exact sl_strsAt w6 _ 9 [⟨#[35]⟩] _ rfl hxl.out (by simp [maxLen])
    rw [← hw7]
    clear hw7
    generalize w6.heap.size = x7 at hSl ⊢
    have hgs := set4_gr (w := w7) (g := xb0) (.int .i64 2) (.int .i64 px) (.int .i64 py) (.slice (some ⟨x7, 0, none⟩) 1 1)
    have hbf := box_set4 (hbb6.pure hg7) (.int .i64 2) (.int .i64 px) (.int .i64 py) (.slice (some ⟨x7, 0, none⟩) 1 1)
    have hcf := (hba6.pure hg7).gr hgs (by intro e; injection e with e; exact hxn0 e.symm)
    replace hSl := hSl.gr hgs (fun q e => by injection e; omega)
    have hgf := gr_new (hgw6.t hg7) hgs (by omega)
    have hl1f := hl1.gr (gr_row (gr_trans hgr6 (gr_any hg7)) hgs (fun q e => by injection e; omega)) (fun q e => by injection e; omega)
    generalize (((w7.setCell ⟨xb0, 0, none⟩ (.int .i64 2)).setCell ⟨xb0, 1, none⟩ (.int .i64 px)).setCell ⟨xb0, 2, none⟩ (.int .i64 py)).setCell ⟨xb0, 3, none⟩ (.slice (some ⟨x7, 0, none⟩) 1 1) = wf at *
    have hA := CArg.mk (w := wf) (hl1f.mono (Nat.zero_le _)) hn1.out.symm (fun s h => by have := hz1.out s h; omega)
    have hB := CArg.mk (w := wf) (c := ⟨2, px, py, [⟨#[35]⟩]⟩) (n := 1) (hSl.mono (Nat.zero_le _)) rfl (fun s h => by rw [List.mem_singleton.1 h]; decide)
    clear hl1f hSl hgs hg7 hgr6 hgr5 hgr4 hgr0 hbb6 hba6 hgw6 hl1 hxl
    have hbx := hide (fun wx (h : (wf).grownBy wx none) => And.intro (box4_c ((hcf).pure h)) (box4_c ((hbf).pure h)))
    have hU := hide (fun wx (h : (wf).grownBy wx none) => combinedLaw_any c1 (⟨2, px, py, [⟨#[35]⟩]⟩ : Cel) A1 n1 cc1 (some ⟨x7, 0, none⟩ : Option Addr) 1 1 (fun x y => onC c1 x y || onC (⟨2, px, py, [⟨#[35]⟩]⟩ : Cel) x y) (fun x y => x || y) 10 11 wx ((hA).pure h) ((hB).pure h)
      (fun xs wx => run_enter Tryz.func10 (by kernel_rfl) rfl xs wx) (fun wy hy => union_any c1 (⟨2, px, py, [⟨#[35]⟩]⟩ : Cel) A1 n1 cc1 (some ⟨x7, 0, none⟩ : Option Addr) 1 1 wy ((hA).pure (h.t hy)) ((hB).pure (h.t hy)))
      (fun xs wx => run_enter Tryz.func11 (by kernel_rfl) rfl xs wx) (fun x y wx => cc1_any x y wx) (fun x y => by simp))
    have hV := hide (fun wx (h : (wf).grownBy wx none) => combinedLaw_any c1 (⟨2, px, py, [⟨#[35]⟩]⟩ : Cel) A1 n1 cc1 (some ⟨x7, 0, none⟩ : Option Addr) 1 1 (fun x y => onC c1 x y && onC (⟨2, px, py, [⟨#[35]⟩]⟩ : Cel) x y) (fun x y => x && y) 12 13 wx ((hA).pure h) ((hB).pure h)
      (fun xs wx => run_enter Tryz.func12 (by kernel_rfl) rfl xs wx) (fun wy hy => both_any c1 (⟨2, px, py, [⟨#[35]⟩]⟩ : Cel) A1 n1 cc1 (some ⟨x7, 0, none⟩ : Option Addr) 1 1 wy ((hA).pure (h.t hy)) ((hB).pure (h.t hy)))
      (fun xs wx => run_enter Tryz.func13 (by kernel_rfl) rfl xs wx) (fun x y wx => cc2_any x y wx) (fun x y => by rcases onC c1 x y with _ | _ <;> rcases onC (⟨2, px, py, [⟨#[35]⟩]⟩ : Cel) x y with _ | _ <;> rfl))
    have hM := hide (fun wx (h : (wf).grownBy wx none) => combinedLaw_any c1 (⟨2, px, py, [⟨#[35]⟩]⟩ : Cel) A1 n1 cc1 (some ⟨x7, 0, none⟩ : Option Addr) 1 1 (fun x y => onC c1 x y && !onC (⟨2, px, py, [⟨#[35]⟩]⟩ : Cel) x y) (fun x y => x && !y) 14 15 wx ((hA).pure h) ((hB).pure h)
      (fun xs wx => run_enter Tryz.func14 (by kernel_rfl) rfl xs wx) (fun wy hy => minus_any c1 (⟨2, px, py, [⟨#[35]⟩]⟩ : Cel) A1 n1 cc1 (some ⟨x7, 0, none⟩ : Option Addr) 1 1 wy ((hA).pure (h.t hy)) ((hB).pure (h.t hy)))
      (fun xs wx => run_enter Tryz.func15 (by kernel_rfl) rfl xs wx) (fun x y wx => cc3_any x y wx) (fun x y => by rcases onC c1 x y with _ | _ <;> rcases onC (⟨2, px, py, [⟨#[35]⟩]⟩ : Cel) x y with _ | _ <;> rfl))
    have hcur := World.grownBy.refl wf none
    obtain ⟨⟨⟨p0, -⟩, ⟨p1, -⟩, ⟨p2, -⟩, ⟨p3, -⟩⟩, ⟨⟨q0, -⟩, ⟨q1, -⟩, ⟨q2, -⟩, ⟨q3, -⟩⟩⟩ := hbx.out _ hcur
    go_wp2_with fail
    refine (hU.out _ hcur).mono ?_
    rintro e wu ⟨rfl, hgu⟩
    clear p0 p1 p2 p3 q0 q1 q2 q3 hcur hU
    obtain ⟨⟨⟨p0, -⟩, ⟨p1, -⟩, ⟨p2, -⟩, ⟨p3, -⟩⟩, ⟨⟨q0, -⟩, ⟨q1, -⟩, ⟨q2, -⟩, ⟨q3, -⟩⟩⟩ := hbx.out _ hgu
    go_wp2_with fail
    refine (hV.out _ hgu).mono ?_
    rintro e wv ⟨rfl, hgv⟩
    replace hgv := hgu.t hgv
    clear p0 p1 p2 p3 q0 q1 q2 q3 hgu hV
    obtain ⟨⟨⟨p0, -⟩, ⟨p1, -⟩, ⟨p2, -⟩, ⟨p3, -⟩⟩, ⟨⟨q0, -⟩, ⟨q1, -⟩, ⟨q2, -⟩, ⟨q3, -⟩⟩⟩ := hbx.out _ hgv
    go_wp2_with fail
    refine (hM.out _ hgv).mono ?_
    rintro e wm ⟨rfl, hgm⟩
    replace hgm := hgv.t hgm
    clear p0 p1 p2 p3 q0 q1 q2 q3 hgv hM
    go_wp2_with fail
    refine (regioned_any wm).mono ?_
    rintro e wr ⟨rfl, hgr⟩
    go_wp2_with fail
    go_ret
    exact ⟨rfl, (hgf).t (hgm.t hgr)⟩

end Go.Proofs.YtlfcgobmhbemoaaGreatDoor
