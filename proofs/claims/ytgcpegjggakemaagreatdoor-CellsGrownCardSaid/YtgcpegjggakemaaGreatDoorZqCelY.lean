/- Contracts of functions that this seat's laws reach, each: what one call returns and what it leaves in memory; no condition beyond each theorem's own hypotheses. -/
import Derived.Test.YtgcpegjggakemaaGreatDoorZqCelW
import Derived.Test.YtgcpegjggakemaaGreatDoorZqOrder
import Derived.Test.YtgcpegjggakemaaGreatDoorZqEqStr
set_option linter.unusedVariables false
set_option linter.unusedSimpArgs false
namespace Go.Bl
open Go
/-- rows of cells that a set gives are short -/
theorem IsCells.small {st : Int} {S : Int → Int → Bool} {c : Cel} {e : Int} (h : IsCells st S c e) : ∀ s ∈ c.rows, s.size ≤ 200 := by
  rcases h with ⟨-, rfl, -⟩ | ⟨x0, y0, x1, y1, hb, ⟨-, rfl, -⟩ | ⟨hn, ⟨-, rfl, -⟩ | ⟨-, rfl, -⟩⟩⟩
  · simp
  · simp
  · intro s hs
    obtain ⟨j, hj, rfl⟩ := List.mem_iff_getElem.1 hs
    have hj' := hj
    simp only [mkC, rowsB_len] at hj
    rw [← getD_of hj']
    simp only [mkC]
    rw [rowsB_at hj, rowB_size]
    omega
  · simp

end Go.Bl
namespace Go.Proofs.YtgcpegjggakemaaGreatDoor
open Go Go.RowKit Go.Bl Go.Maps Go.WideShapes

set_option maxHeartbeats 4000000 in
set_option maxRecDepth 100000 in
theorem trimmed_any (c : Cel) (A : Option Addr) (n cc : Nat) (w : World) (ha : CArg w c A n) (hf : CFit c) (hbd : ∀ x y, onC c x y = true → -10000000 ≤ x ∧ x ≤ 10001000 ∧ -10000000 ≤ y ∧ y ≤ 10001000) :
    Calls Tryz.prog 55 #[.agg #[.int .i64 (c).step, .int .i64 (c).x, .int .i64 (c).y, .slice A n cc]] w fun e w' => ∃ (d : Cel) (er : Int) (D : Option Addr) (dd : Nat), e = .returned (.agg #[.int .i64 (d).step, .int .i64 (d).x, .int .i64 (d).y, .slice D d.rows.length dd]) ∧ IsCells c.step (onC c) d er ∧ Own w' w.heap.size 9 D dd d.rows ∧ w.grownBy w' none := by
  have hs := hf.s
  have hSet := hide (fun W (h : w.grownBy W none) => setOf_any c A n cc W (ha.pure h) hf)
  replace hbd := hide hbd
  clear ha hf
  go_enter Tryz.func55, Tryz.ntmps55
  go_upto_region 1 with fail
  obtain ⟨w0, hw0⟩ : ∃ x, x = ((w).alloc (.cells [.int .i64 (c).step, .int .i64 (c).x, .int .i64 (c).y, .slice A n cc].toArray 34)).alloc (.cells [.int .i64 0, .int .i64 0, .int .i64 0, .slice none 0 0].toArray 34) := ⟨_, rfl⟩
  have hba0 : Box w0 (w).heap.size 34 [.int .i64 (c).step, .int .i64 (c).x, .int .i64 (c).y, .slice A n cc] := by
    rw [hw0]; exact (Box.new (w) [.int .i64 (c).step, .int .i64 (c).x, .int .i64 (c).y, .slice A n cc] 34).pure (gr_alloc (World.grownBy.refl _ _) _)
  have hbb0 : Box w0 ((w).heap.size + 1) 34 [.int .i64 0, .int .i64 0, .int .i64 0, .slice none 0 0] := by
    have h := Box.new ((w).alloc (.cells [.int .i64 (c).step, .int .i64 (c).x, .int .i64 (c).y, .slice A n cc].toArray 34)) [.int .i64 0, .int .i64 0, .int .i64 0, .slice none 0 0] 34
    rw [show ((w).alloc (.cells [.int .i64 (c).step, .int .i64 (c).x, .int .i64 (c).y, .slice A n cc].toArray 34)).heap.size = (w).heap.size + 1 by simp] at h
    rw [hw0]; exact h
  have hg0 : (w).grownBy w0 none := by rw [hw0]; exact (by repeat (first | exact World.grownBy.refl _ _ | assumption | refine gr_alloc ?_ _ | (apply gr_tail; assumption) | refine gr_drewN ?_ _ | refine gr_drew ?_))
  rw [← hw0]
  clear hw0
  obtain ⟨xb0, hxb0⟩ : ∃ x, x = (w).heap.size + 1 := ⟨_, rfl⟩
  rw [← hxb0] at hbb0 ⊢
  obtain ⟨xa0, hxa0⟩ : ∃ x, x = (w).heap.size := ⟨_, rfl⟩
  rw [← hxa0] at hba0 ⊢
  have hxn0 : xa0 ≠ xb0 := by omega
  replace hxa0 : (w).heap.size ≤ xa0 := by omega
  replace hxb0 : (w).heap.size ≤ xb0 := by omega
  have hck : Hid (∀ wx, w0.grownBy wx none → Box wx xa0 34 [.int .i64 (c).step, .int .i64 (c).x, .int .i64 (c).y, .slice A n cc]) := fun wx h => hba0.pure h
  have hsz0 := hg0.size
  go_cut [3] (fun s3 wx => ∃ (x3 : Nat) (d : Cel) (er : Int) (D : Option Addr) (dd : Nat), s3 = .pointer (some ⟨x3, 0, none⟩) ∧ Box wx x3 34 [.int .i64 (d).step, .int .i64 (d).x, .int .i64 (d).y, .slice D d.rows.length dd] ∧ Own wx w.heap.size 9 D dd d.rows ∧ Hid (IsCells c.step (onC c) d er) ∧ w0.grownBy wx none)
  case first =>
    refine wp_region_tree (fun wx => w0.grownBy wx none) [1, 0, 2, 1, 0, 2, 2, 2, 0, 0, 2] (.bl 0 (.bl 2 (.bl 3 (.alt (.ef 1 (.alt (.ef 4 (.bl 5 (.bl 6 (.bl 7 (.ef 8 (.ef 9 (.bl 10 .done))))))) (.ef 8 (.ef 4 (.bl 5 (.bl 6 (.bl 7 (.ef 9 (.bl 10 .done))))))))) (.ef 8 (.ef 1 (.ef 4 (.bl 5 (.bl 6 (.bl 7 (.ef 9 (.bl 10 .done)))))))))))) (by kernel_rfl) (by kernel_rfl) (gr_drew (World.grownBy.refl _ _)) ?_
    obtain ⟨w5, hw5⟩ : ∃ x, x = (w0).drew := ⟨_, rfl⟩
    rw [← hw5]
    have hgw5 : (w0).grownBy w5 none := by rw [hw5]; exact gr_drew (World.grownBy.refl _ _)
    clear hw5
    refine tree_b rfl rfl rfl rfl _ rfl (by simp) (fun K hK => ?_)
    apply Exists.intro
    refine ⟨fun wq hq K' hK' => ?_, ?_⟩
    · obtain ⟨⟨a0, -⟩, ⟨a1, -⟩, ⟨a2, -⟩, ⟨a3, -⟩⟩ := box4_c (hck.out wq hq)
      go_wp2_with fail
      exact hK'
    go_simp
    refine hK _ ?_
    clear hK K
    refine tree_p rfl rfl rfl rfl _ rfl (by simp) (fun K hK => ?_)
    apply Exists.intro
    refine ⟨fun wq K' hK' => ?_, ?_⟩
    · go_wp2_with fail
      exact hK'
    go_simp
    refine hK _ ?_
    clear hK K
    refine tree_b rfl rfl rfl rfl _ rfl (by simp) (fun K hK => ?_)
    apply Exists.intro
    refine ⟨fun wq hq K' hK' => ?_, ?_⟩
    · obtain ⟨⟨a0, -⟩, ⟨a1, -⟩, ⟨a2, -⟩, ⟨a3, -⟩⟩ := box4_c (hck.out wq hq)
      go_wp2_with fail
      exact hK'
    go_simp
    refine hK _ ?_
    clear hK K
    refine tree_alt ?_ ?_
    · refine tree_e rfl rfl (fun K hK => ?_)
      go_wp2_with fail
      refine (hSet.out w5 (hg0.t (gr_trans hgw5 (World.grownBy.refl _ _)))).mono ?_
      rintro e u1 ⟨ms, rfl, hs1, hg1, hl1⟩
      go_wp2_with fail
      try go_simp
      refine hK _ _ (gr_trans (gr_trans hgw5 (World.grownBy.refl _ _)) hg1) ?_
      clear hK K
      refine tree_alt ?_ ?_
      · refine tree_e0 (by kernel_rfl) rfl rfl (fun K hK => ?_)
        go_wp2_with fail
        refine (cellsOf_any ms 1000000 (onC c) c.step u1 (hs1.pure (World.grownBy.refl _ _)) hs hbd.out).mono ?_
        rintro e u4 ⟨d, er, D, dd, rfl, hI, hO4, hg4⟩
        obtain ⟨nd, hnd⟩ : ∃ q, q = d.rows.length := ⟨_, rfl⟩
        rw [← hnd]
        replace hnd := hide hnd
        replace hI := hide hI
        have hO4' := Own.lower hO4 (show w.heap.size ≤ (u1).heap.size by have := hgw5.size; have := (gr_trans hgw5 hg1).size; omega)
        go_wp2_with fail
        try go_simp
        refine hK _ _ trivial ?_
        clear hK K
        refine tree_p rfl rfl rfl rfl _ rfl (by simp) (fun K hK => ?_)
        apply Exists.intro
        refine ⟨fun wq K' hK' => ?_, ?_⟩
        · go_wp2_with fail
          exact hK'
        go_simp
        refine hK _ ?_
        clear hK K
        refine tree_p rfl rfl rfl rfl _ rfl (by simp) (fun K hK => ?_)
        apply Exists.intro
        refine ⟨fun wq K' hK' => ?_, ?_⟩
        · go_wp2_with fail
          exact hK'
        go_simp
        refine hK _ ?_
        clear hK K
        refine tree_p rfl rfl rfl rfl _ rfl (by simp) (fun K hK => ?_)
        apply Exists.intro
        refine ⟨fun wq K' hK' => ?_, ?_⟩
        · go_wp2_with fail
          exact hK'
        go_simp
        refine hK _ ?_
        clear hK K
        refine tree_e rfl rfl (fun K hK => ?_)
        go_wp2_with fail
        try go_simp
        refine hK _ _ (gr_alloc (gr_trans hgw5 (gr_trans hg1 hg4)) _) ?_
        clear hK K
        obtain ⟨w8, hw8⟩ : ∃ x, x = (u4).alloc (.cells [.int .i64 0, .int .i64 0, .int .i64 0, .slice none 0 0].toArray 34) := ⟨_, rfl⟩
        have hg8 : (u4).grownBy w8 none := by rw [hw8]; exact gr_alloc (World.grownBy.refl _ _) _
        have hb8 : Box w8 (u4).heap.size 34 [.int .i64 0, .int .i64 0, .int .i64 0, .slice none 0 0] := by rw [hw8]; exact Box.new _ _ _
        rw [← hw8]
        clear hw8
        obtain ⟨x8, hx8⟩ : ∃ x, x = (u4).heap.size := ⟨_, rfl⟩
        rw [← hx8] at hb8 ⊢
        have hxl8 : (u4).heap.size ≤ x8 := by omega
        clear hx8
        refine tree_e0 (by kernel_rfl) rfl rfl (fun K hK => ?_)
        have hb9 := hb8.pure (w' := w8) (World.grownBy.refl _ _)
        have hO9 := hO4'.pure (w' := w8) hg8
        have hgw9 := gr_trans hgw5 (gr_trans (gr_trans hg1 hg4) hg8)
        obtain ⟨⟨d0, f0⟩, ⟨d1, f1⟩, ⟨d2, f2⟩, ⟨d3, f3⟩⟩ := box4_c hb9
        go_wp2_with fail
        try go_simp
        refine hK _ _ trivial ?_
        clear hK K
        have hbf := box_set4 hb9 (.int .i64 d.step) (.int .i64 d.x) (.int .i64 d.y) (.slice D nd dd)
        have hOf := hO9.ne (set4_gr (w := w8) (g := x8) (.int .i64 d.step) (.int .i64 d.x) (.int .i64 d.y) (.slice D nd dd)) (fun x h e => hb9.ne_own hO9 (by decide) (by injection e with e; rw [e]; exact h))
        have hgf := gr_new hgw9 (set4_gr (w := w8) (g := x8) (.int .i64 d.step) (.int .i64 d.x) (.int .i64 d.y) (.slice D nd dd)) (show w0.heap.size ≤ x8 by have := hgw5.size; have := hxl8; have := (gr_trans hgw5 (gr_trans (gr_trans hg1 hg4) hg8)).size; first | omega | (have := hg1.size; omega) | (have := hg1.size; have := hg4.size; omega))
        generalize ((((w8).setCell ⟨x8, 0, none⟩ (.int .i64 d.step)).setCell ⟨x8, 1, none⟩ (.int .i64 d.x)).setCell ⟨x8, 2, none⟩ (.int .i64 d.y)).setCell ⟨x8, 3, none⟩ (.slice D nd dd) = u9 at *
        clear d0 f0 d1 f1 d2 f2 d3 f3
        refine tree_p rfl rfl rfl rfl _ rfl (by simp) (fun K hK => ?_)
        apply Exists.intro
        refine ⟨fun wq K' hK' => ?_, ?_⟩
        · go_wp2_with fail
          exact hK'
        go_simp
        refine hK _ ?_
        clear hK K
        refine tree_done ?_
        go_wp2_with fail
        go_meet
        exact ⟨x8, d, er, D, dd, rfl, by rw [← hnd.out]; exact hbf, hOf, hI, hgf⟩
      · refine tree_e rfl rfl (fun K hK => ?_)
        go_wp2_with fail
        try go_simp
        refine hK _ _ (gr_alloc (gr_trans hgw5 hg1) _) ?_
        clear hK K
        obtain ⟨w8, hw8⟩ : ∃ x, x = (u1).alloc (.cells [.int .i64 0, .int .i64 0, .int .i64 0, .slice none 0 0].toArray 34) := ⟨_, rfl⟩
        have hg8 : (u1).grownBy w8 none := by rw [hw8]; exact gr_alloc (World.grownBy.refl _ _) _
        have hb8 : Box w8 (u1).heap.size 34 [.int .i64 0, .int .i64 0, .int .i64 0, .slice none 0 0] := by rw [hw8]; exact Box.new _ _ _
        rw [← hw8]
        clear hw8
        obtain ⟨x8, hx8⟩ : ∃ x, x = (u1).heap.size := ⟨_, rfl⟩
        rw [← hx8] at hb8 ⊢
        have hxl8 : (u1).heap.size ≤ x8 := by omega
        clear hx8
        refine tree_e0 (by kernel_rfl) rfl rfl (fun K hK => ?_)
        go_wp2_with fail
        refine (cellsOf_any ms 1000000 (onC c) c.step w8 (hs1.pure hg8) hs hbd.out).mono ?_
        rintro e u4 ⟨d, er, D, dd, rfl, hI, hO4, hg4⟩
        obtain ⟨nd, hnd⟩ : ∃ q, q = d.rows.length := ⟨_, rfl⟩
        rw [← hnd]
        replace hnd := hide hnd
        replace hI := hide hI
        have hO4' := Own.lower hO4 (show w.heap.size ≤ (w8).heap.size by have := hgw5.size; have := (gr_trans hgw5 (gr_trans hg1 hg8)).size; omega)
        go_wp2_with fail
        try go_simp
        refine hK _ _ trivial ?_
        clear hK K
        refine tree_p rfl rfl rfl rfl _ rfl (by simp) (fun K hK => ?_)
        apply Exists.intro
        refine ⟨fun wq K' hK' => ?_, ?_⟩
        · go_wp2_with fail
          exact hK'
        go_simp
        refine hK _ ?_
        clear hK K
        refine tree_p rfl rfl rfl rfl _ rfl (by simp) (fun K hK => ?_)
        apply Exists.intro
        refine ⟨fun wq K' hK' => ?_, ?_⟩
        · go_wp2_with fail
          exact hK'
        go_simp
        refine hK _ ?_
        clear hK K
        refine tree_p rfl rfl rfl rfl _ rfl (by simp) (fun K hK => ?_)
        apply Exists.intro
        refine ⟨fun wq K' hK' => ?_, ?_⟩
        · go_wp2_with fail
          exact hK'
        go_simp
        refine hK _ ?_
        clear hK K
        refine tree_e0 (by kernel_rfl) rfl rfl (fun K hK => ?_)
        have hb9 := hb8.pure (w' := u4) hg4
        have hO9 := hO4'.pure (w' := u4) (World.grownBy.refl _ _)
        have hgw9 := gr_trans hgw5 (gr_trans (gr_trans hg1 hg8) hg4)
        obtain ⟨⟨d0, f0⟩, ⟨d1, f1⟩, ⟨d2, f2⟩, ⟨d3, f3⟩⟩ := box4_c hb9
        go_wp2_with fail
        try go_simp
        refine hK _ _ trivial ?_
        clear hK K
        have hbf := box_set4 hb9 (.int .i64 d.step) (.int .i64 d.x) (.int .i64 d.y) (.slice D nd dd)
        have hOf := hO9.ne (set4_gr (w := u4) (g := x8) (.int .i64 d.step) (.int .i64 d.x) (.int .i64 d.y) (.slice D nd dd)) (fun x h e => hb9.ne_own hO9 (by decide) (by injection e with e; rw [e]; exact h))
        have hgf := gr_new hgw9 (set4_gr (w := u4) (g := x8) (.int .i64 d.step) (.int .i64 d.x) (.int .i64 d.y) (.slice D nd dd)) (show w0.heap.size ≤ x8 by have := hgw5.size; have := hxl8; have := (gr_trans hgw5 (gr_trans (gr_trans hg1 hg8) hg4)).size; first | omega | (have := hg1.size; omega) | (have := hg1.size; have := hg4.size; omega))
        generalize ((((u4).setCell ⟨x8, 0, none⟩ (.int .i64 d.step)).setCell ⟨x8, 1, none⟩ (.int .i64 d.x)).setCell ⟨x8, 2, none⟩ (.int .i64 d.y)).setCell ⟨x8, 3, none⟩ (.slice D nd dd) = u9 at *
        clear d0 f0 d1 f1 d2 f2 d3 f3
        refine tree_p rfl rfl rfl rfl _ rfl (by simp) (fun K hK => ?_)
        apply Exists.intro
        refine ⟨fun wq K' hK' => ?_, ?_⟩
        · go_wp2_with fail
          exact hK'
        go_simp
        refine hK _ ?_
        clear hK K
        refine tree_done ?_
        go_wp2_with fail
        go_meet
        exact ⟨x8, d, er, D, dd, rfl, by rw [← hnd.out]; exact hbf, hOf, hI, hgf⟩
    · refine tree_e rfl rfl (fun K hK => ?_)
      go_wp2_with fail
      try go_simp
      refine hK _ _ (gr_alloc (gr_trans hgw5 (World.grownBy.refl _ _)) _) ?_
      clear hK K
      obtain ⟨w8, hw8⟩ : ∃ x, x = (w5).alloc (.cells [.int .i64 0, .int .i64 0, .int .i64 0, .slice none 0 0].toArray 34) := ⟨_, rfl⟩
      have hg8 : (w5).grownBy w8 none := by rw [hw8]; exact gr_alloc (World.grownBy.refl _ _) _
      have hb8 : Box w8 (w5).heap.size 34 [.int .i64 0, .int .i64 0, .int .i64 0, .slice none 0 0] := by rw [hw8]; exact Box.new _ _ _
      rw [← hw8]
      clear hw8
      obtain ⟨x8, hx8⟩ : ∃ x, x = (w5).heap.size := ⟨_, rfl⟩
      rw [← hx8] at hb8 ⊢
      have hxl8 : (w5).heap.size ≤ x8 := by omega
      clear hx8
      refine tree_e rfl rfl (fun K hK => ?_)
      go_wp2_with fail
      refine (hSet.out w8 (hg0.t (gr_trans hgw5 hg8))).mono ?_
      rintro e u1 ⟨ms, rfl, hs1, hg1, hl1⟩
      go_wp2_with fail
      try go_simp
      refine hK _ _ (gr_trans (gr_trans hgw5 hg8) hg1) ?_
      clear hK K
      refine tree_e0 (by kernel_rfl) rfl rfl (fun K hK => ?_)
      go_wp2_with fail
      refine (cellsOf_any ms 1000000 (onC c) c.step u1 (hs1.pure (World.grownBy.refl _ _)) hs hbd.out).mono ?_
      rintro e u4 ⟨d, er, D, dd, rfl, hI, hO4, hg4⟩
      obtain ⟨nd, hnd⟩ : ∃ q, q = d.rows.length := ⟨_, rfl⟩
      rw [← hnd]
      replace hnd := hide hnd
      replace hI := hide hI
      have hO4' := Own.lower hO4 (show w.heap.size ≤ (u1).heap.size by have := hgw5.size; have := (gr_trans hgw5 (gr_trans hg8 hg1)).size; omega)
      go_wp2_with fail
      try go_simp
      refine hK _ _ trivial ?_
      clear hK K
      refine tree_p rfl rfl rfl rfl _ rfl (by simp) (fun K hK => ?_)
      apply Exists.intro
      refine ⟨fun wq K' hK' => ?_, ?_⟩
      · go_wp2_with fail
        exact hK'
      go_simp
      refine hK _ ?_
      clear hK K
      refine tree_p rfl rfl rfl rfl _ rfl (by simp) (fun K hK => ?_)
      apply Exists.intro
      refine ⟨fun wq K' hK' => ?_, ?_⟩
      · go_wp2_with fail
        exact hK'
      go_simp
      refine hK _ ?_
      clear hK K
      refine tree_p rfl rfl rfl rfl _ rfl (by simp) (fun K hK => ?_)
      apply Exists.intro
      refine ⟨fun wq K' hK' => ?_, ?_⟩
      · go_wp2_with fail
        exact hK'
      go_simp
      refine hK _ ?_
      clear hK K
      refine tree_e0 (by kernel_rfl) rfl rfl (fun K hK => ?_)
      have hb9 := hb8.pure (w' := u4) (gr_trans hg1 hg4)
      have hO9 := hO4'.pure (w' := u4) (World.grownBy.refl _ _)
      have hgw9 := gr_trans hgw5 (gr_trans (gr_trans hg8 hg1) hg4)
      obtain ⟨⟨d0, f0⟩, ⟨d1, f1⟩, ⟨d2, f2⟩, ⟨d3, f3⟩⟩ := box4_c hb9
      go_wp2_with fail
      try go_simp
      refine hK _ _ trivial ?_
      clear hK K
      have hbf := box_set4 hb9 (.int .i64 d.step) (.int .i64 d.x) (.int .i64 d.y) (.slice D nd dd)
      have hOf := hO9.ne (set4_gr (w := u4) (g := x8) (.int .i64 d.step) (.int .i64 d.x) (.int .i64 d.y) (.slice D nd dd)) (fun x h e => hb9.ne_own hO9 (by decide) (by injection e with e; rw [e]; exact h))
      have hgf := gr_new hgw9 (set4_gr (w := u4) (g := x8) (.int .i64 d.step) (.int .i64 d.x) (.int .i64 d.y) (.slice D nd dd)) (show w0.heap.size ≤ x8 by have := hgw5.size; have := hxl8; have := (gr_trans hgw5 (gr_trans (gr_trans hg8 hg1) hg4)).size; first | omega | (have := hg1.size; omega) | (have := hg1.size; have := hg4.size; omega))
      generalize ((((u4).setCell ⟨x8, 0, none⟩ (.int .i64 d.step)).setCell ⟨x8, 1, none⟩ (.int .i64 d.x)).setCell ⟨x8, 2, none⟩ (.int .i64 d.y)).setCell ⟨x8, 3, none⟩ (.slice D nd dd) = u9 at *
      clear d0 f0 d1 f1 d2 f2 d3 f3
      refine tree_p rfl rfl rfl rfl _ rfl (by simp) (fun K hK => ?_)
      apply Exists.intro
      refine ⟨fun wq K' hK' => ?_, ?_⟩
      · go_wp2_with fail
        exact hK'
      go_simp
      refine hK _ ?_
      clear hK K
      refine tree_done ?_
      go_wp2_with fail
      go_meet
      exact ⟨x8, d, er, D, dd, rfl, by rw [← hnd.out]; exact hbf, hOf, hI, hgf⟩
  case rest =>
    obtain ⟨x3, d, er, D, dd, rfl, hb3, hO, hI, hgc⟩ := hcut
    have hgw := hg0.t hgc
    have hbr := hbb0.pure hgc
    obtain ⟨nd, hnd⟩ : ∃ q, q = d.rows.length := ⟨_, rfl⟩
    rw [← hnd] at hb3
    replace hnd := hide hnd
    obtain ⟨⟨k0, -⟩, ⟨k1, -⟩, ⟨k2, -⟩, ⟨k3, -⟩⟩ := box4_c hb3
    obtain ⟨⟨d0, f0⟩, ⟨d1, f1⟩, ⟨d2, f2⟩, ⟨d3, f3⟩⟩ := box4_c hbr
    clear hck hSet
    go_wp2_with fail
    clear d0 d1 d2 d3 f0 f1 f2 f3 k0 k1 k2 k3
    have hgf := gr_new hgw (set4_gr (w := wc) (g := xb0) (.int .i64 d.step) (.int .i64 d.x) (.int .i64 d.y) (.slice D nd dd)) hxb0
    have hOf := hO.ne (set4_gr (w := wc) (g := xb0) (.int .i64 d.step) (.int .i64 d.x) (.int .i64 d.y) (.slice D nd dd)) (fun x h e => hbr.ne_own hO (by decide) (by injection e with e; rw [e]; exact h))
    have hbf := box_set4 hbr (.int .i64 d.step) (.int .i64 d.x) (.int .i64 d.y) (.slice D nd dd)
    generalize (((wc.setCell ⟨xb0, 0, none⟩ (.int .i64 d.step)).setCell ⟨xb0, 1, none⟩ (.int .i64 d.x)).setCell ⟨xb0, 2, none⟩ (.int .i64 d.y)).setCell ⟨xb0, 3, none⟩ (.slice D nd dd) = wf at *
    obtain ⟨⟨d0, f0⟩, ⟨d1, f1⟩, ⟨d2, f2⟩, ⟨d3, f3⟩⟩ := box4_c hbf
    exact bodyPost_ret (v := .agg #[.int .i64 d.step, .int .i64 d.x, .int .i64 d.y, .slice D nd dd]) (by simp [results, Tryz.results55, go_sem, d0, d1, d2, d3, f0, f1, f2, f3]) rfl ⟨d, er, D, dd, by rw [hnd.out], hI.out, hOf, hgf⟩

end Go.Proofs.YtgcpegjggakemaaGreatDoor

namespace Go.Bl
open Go

theorem okR_append {s t : ByteArray} (h1 : okR s = true) (h2 : okR t = true) : okR (s ++ t) = true := by
  simp only [okR, List.all_eq_true] at *
  intro b hb
  have : (s ++ t).data.toList = s.data.toList ++ t.data.toList := by simp
  rw [this, List.mem_append] at hb
  rcases hb with hb | hb
  · exact h1 b hb
  · exact h2 b hb

theorem mult_mul3 {st k : Int} (h1 : -3 ≤ k) (h2 : k ≤ 3) (hs : 2 ≤ st ∧ st ≤ 10000) : -30000 ≤ st * k ∧ st * k ≤ 30000 ∧ multB (st * k) st = true ∧ (-3 ≤ st * k / st ∧ st * k / st ≤ 3) := by
  refine ⟨?_, ?_, ?_, ?_⟩
  · rcases (show k = -3 ∨ k = -2 ∨ k = -1 ∨ k = 0 ∨ k = 1 ∨ k = 2 ∨ k = 3 by omega) with rfl | rfl | rfl | rfl | rfl | rfl | rfl <;> omega
  · rcases (show k = -3 ∨ k = -2 ∨ k = -1 ∨ k = 0 ∨ k = 1 ∨ k = 2 ∨ k = 3 by omega) with rfl | rfl | rfl | rfl | rfl | rfl | rfl <;> omega
  · simp [multB]
  · rw [Int.mul_ediv_cancel_left _ (by omega)]; exact ⟨h1, h2⟩

theorem Own.set_str {w : World} {lo : Nat} {e : TypeId} {g c : Nat} {l : List ByteArray} (h : Own w lo e (some ⟨g, 0, none⟩) c l) {i : Nat} (hi : i < l.length) (s : ByteArray) : Own (w.setCell ⟨g, i, none⟩ (.string s)) lo e (some ⟨g, 0, none⟩) c (l.set i s) := by
  have := h.put (i := i) (j := 0) (x := s) (u := .string s) hi (by decide) (fun c1 h => by rw [show c1 = _ from h]; rfl)
  rwa [show Enc.sz ByteArray = 1 from rfl, Nat.mul_one] at this

theorem small7 {st X Y : Int} {rows : List ByteArray} (hs : 2 ≤ st ∧ st ≤ 10000) (h1 : -30000 ≤ X) (h2 : X ≤ 30000) (h3 : multB X st = true) (k1 : -30000 ≤ Y) (k2 : Y ≤ 30000) (k3 : multB Y st = true)
    (hr : ∀ s ∈ rows, s.size ≤ 7 ∧ okR s = true) (hl : rows.length ≤ 7) :
    CFit ⟨st, X, Y, rows⟩ ∧ ∀ x y, onC ⟨st, X, Y, rows⟩ x y = true → -10000000 ≤ x ∧ x ≤ 10001000 ∧ -10000000 ≤ y ∧ y ≤ 10001000 := by
  refine ⟨⟨hs, by show _ ≤ X ∧ X ≤ _; omega, by show _ ≤ Y ∧ Y ≤ _; omega, h3, k3, by show rows.length ≤ 1000; omega, fun j h => ?_⟩, fun x y h => ?_⟩
  · have h' := hr _ (List.getElem_mem h)
    exact ⟨by omega, h'.2⟩
  · simp only [onC, Bool.and_eq_true, decide_eq_true_eq] at h
    obtain ⟨⟨a1, a2⟩, a3⟩ := h
    have b1 : (y - Y / st).toNat < rows.length := Nat.lt_of_not_le fun hh => by rw [bit_row hh] at a3; cases a3
    have b2 : (x - X / st).toNat < (rows.getD (y - Y / st).toNat ByteArray.empty).size := Nat.lt_of_not_le fun hh => by rw [bit_col hh] at a3; cases a3
    rw [getD_of b1] at b2
    have b3 := (hr _ (List.getElem_mem b1)).1
    have c1 : X / st ≤ 30000 := Int.ediv_le_of_le_mul (by omega) (by omega)
    have c2 : -30000 ≤ X / st := Int.le_ediv_of_mul_le (by omega) (by omega)
    have c3 : Y / st ≤ 30000 := Int.ediv_le_of_le_mul (by omega) (by omega)
    have c4 : -30000 ≤ Y / st := Int.le_ediv_of_mul_le (by omega) (by omega)
    omega
/-- cells that a stream gives: where they are right they are near the origin -/
def NearC (st : Int) (c : Cel) : Prop := cellsF c = 0 → c.step = st ∧ ∀ x y, onC c x y = true → -50 ≤ x ∧ x < 50 ∧ -50 ≤ y ∧ y < 50

theorem near7 {st X Y : Int} {rows : List ByteArray} (h1 : -3 ≤ X / st ∧ X / st ≤ 3) (k1 : -3 ≤ Y / st ∧ Y / st ≤ 3) (hr : ∀ s ∈ rows, s.size ≤ 7) (hl : rows.length ≤ 7) :
    ∀ x y, onC ⟨st, X, Y, rows⟩ x y = true → -50 ≤ x ∧ x < 50 ∧ -50 ≤ y ∧ y < 50 := fun x y h => by
  simp only [onC, Bool.and_eq_true, decide_eq_true_eq] at h
  obtain ⟨⟨a1, a2⟩, a3⟩ := h
  have b1 : (y - Y / st).toNat < rows.length := Nat.lt_of_not_le fun hh => by rw [bit_row hh] at a3; cases a3
  have b2 : (x - X / st).toNat < (rows.getD (y - Y / st).toNat ByteArray.empty).size := Nat.lt_of_not_le fun hh => by rw [bit_col hh] at a3; cases a3
  rw [getD_of b1] at b2
  have b3 := hr _ (List.getElem_mem b1)
  omega

theorem on_nil {st X Y x y : Int} : onC ⟨st, X, Y, []⟩ x y = false := by
  simp [onC, bit_row]

theorem near_zero {st : Int} : NearC st ⟨0, 0, 0, []⟩ := fun h => by
  simp [cellsF, stepB, outB] at h

theorem near_nil {st X Y : Int} : NearC st ⟨st, X, Y, []⟩ := fun _ => ⟨rfl, fun x y h => by rw [on_nil] at h; cases h⟩

theorem near_cells {st : Int} {S : Int → Int → Bool} {d : Cel} {e : Int} (h : IsCells st S d e) (hs : 2 ≤ st) (hb : ∀ x y, S x y = true → -50 ≤ x ∧ x < 50 ∧ -50 ≤ y ∧ y < 50) : NearC st d := by
  rcases h with ⟨-, rfl, -⟩ | ⟨x0, y0, x1, y1, hB, ⟨-, rfl, -⟩ | ⟨-, ⟨-, rfl, -⟩ | ⟨-, rfl, -⟩⟩⟩
  · exact near_nil
  · exact near_zero
  · exact fun _ => ⟨rfl, fun x y h => hb x y (by rwa [mk_on hB (by omega)] at h)⟩
  · exact near_zero

theorem near_step {st s X Y : Int} {rows : List ByteArray} (h : s ∈ [1, 3, 0, -2, 10002]) : NearC st ⟨s, X, Y, rows⟩ := fun h0 => by
  have : stepB s = true := by
    simp only [List.mem_cons, List.not_mem_nil, or_false] at h
    rcases h with rfl | rfl | rfl | rfl | rfl <;> decide
  simp [cellsF, this] at h0

theorem near_off {st X Y : Int} {rows : List ByteArray} (hs : 2 ≤ st) (h3 : multB X st = true) : NearC st ⟨st, X + 1, Y, rows⟩ := fun h0 => by
  have h1 := (cells_ok.1 h0).mx
  simp only [multB, beq_iff_eq] at h1 h3
  have h5 := Int.dvd_sub (Int.dvd_of_tmod_eq_zero h1) (Int.dvd_of_tmod_eq_zero h3)
  rw [show X + 1 - X = 1 by omega] at h5
  have := Int.le_of_dvd (by omega) h5
  omega

end Go.Bl
namespace Go.Proofs.YtgcpegjggakemaaGreatDoor
open Go Go.RowKit Go.Bl

set_option maxHeartbeats 400000 in
theorem someIn_any (b : Nat) (N : Int) (A : Option Addr) (n c : Nat) (l : List ByteArray) (w : World) (hs : Strm w b N) (hN : N ≤ 1000000000000) (hl : Sl w (b + 1) A l) (hn : l.length = n) (h0 : 0 < n) :
    Calls Tryz.prog 54 #[.pointer (some ⟨b, 0, none⟩), .slice A n c] w fun e w' => ∃ s : ByteArray, e = .returned (.string s) ∧ s ∈ l ∧ SOut b (N + 1) w w' := by
  have hm := hl.1
  unfold maxLen at hm
  subst hn
  go_enter Tryz.func54, Tryz.ntmps54
  go_wp2_with fail
  refine (next_any b N _ _ hs hN (by omega)).mono ?_
  rintro e w1 ⟨r, rfl, ⟨hr0, hr1⟩, ho⟩
  obtain ⟨i, rfl⟩ := Int.eq_ofNat_of_zero_le hr0
  have hi : i < l.length := by omega
  obtain ⟨g, o, c1, rfl, hb0, hb1, rfl, hc⟩ := (hl.gr ho.1 (fun g e => by cases e; omega)).at_ (by decide) hi
  have c0 : w1.cell? ⟨g, o + i, none⟩ = some (.string l[i]) := by have := hc 0 _ rfl; rwa [show Enc.sz ByteArray = 1 from rfl, Nat.mul_one] at this
  clear hc
  have hmem : l[i] ∈ l := List.getElem_mem hi
  go_wp2_with fail
  go_ret
  exact ⟨_, rfl, hmem, ho⟩

def s35 : ByteArray := ⟨#[35]⟩

def s46 : ByteArray := ⟨#[46]⟩

set_option maxHeartbeats 8000000 in
set_option maxRecDepth 100000 in
theorem aCells_any (b : Nat) (N st : Int) (w : World) (hs : Strm w b N) (hN : N ≤ 100000000000) (hst : 2 ≤ st ∧ st ≤ 10000) :
    Calls Tryz.prog 9 #[.pointer (some ⟨b, 0, none⟩), .int .i64 st] w fun e w' => ∃ (c : Cel) (A : Option Addr) (cc : Nat), e = .returned (.agg #[.int .i64 (c).step, .int .i64 (c).x, .int .i64 (c).y, .slice A c.rows.length cc]) ∧ Sl w' w.heap.size A c.rows ∧ (∀ s ∈ c.rows, s.size ≤ 1000) ∧ SOut b (N + 80) w w' ∧ NearC st c := by
  have hbw := SOut.lt (SOut.refl hs)
  go_enter Tryz.func9, Tryz.ntmps9
  go_upto_region 1 with fail
  obtain ⟨w4, hw4⟩ : ∃ x, x = (w).alloc (.cells [.int .i64 0, .int .i64 0, .int .i64 0, .slice none 0 0].toArray 34) := ⟨_, rfl⟩
  have hg4 : (w).grownBy w4 none := by rw [hw4]; exact gr_alloc (World.grownBy.refl _ _) _
  have hb4 : Box w4 (w).heap.size 34 [.int .i64 0, .int .i64 0, .int .i64 0, .slice none 0 0] := by rw [hw4]; exact Box.new _ _ _
  have hxs4 := hb4.lt
  rw [← hw4]
  clear hw4
  obtain ⟨x4, hx4⟩ : ∃ x, x = (w).heap.size := ⟨_, rfl⟩
  rw [← hx4] at hb4 hxs4 ⊢
  have hxl4 : (w).heap.size ≤ x4 := by omega
  clear hx4
  have hs4 := hs.pure hg4
  have hx4b : b < x4 := by omega
  go_wp2_with fail
  refine (range_any b N 1 7 w4 hs4 (by omega) (by omega) (by omega) (by omega)).mono ?_
  rintro e w5 ⟨wide, rfl, hwd, ho5⟩
  have hb5 := hb4.gr ho5.1 (by intro e; injection e; omega)
  have hg5 := gr_trans (gr_any hg4) ho5.1
  have hs5 := ho5.2
  clear hs4 hb4 hg4 ho5
  go_wp2_with fail
  refine (range_any b (N + 1) (-3) 3 w5 hs5 (by omega) (by omega) (by omega) (by omega)).mono ?_
  rintro e w6 ⟨kx, rfl, hkx, ho6⟩
  have hb6 := hb5.gr ho6.1 (by intro e; injection e; omega)
  have hg6 := gr_trans hg5 ho6.1
  have hs6 := ho6.2
  obtain ⟨mx1, mx2, mx3, mx4⟩ := mult_mul3 hkx.1 hkx.2 hst
  obtain ⟨X, hX⟩ : ∃ x, st * kx = x := ⟨_, rfl⟩
  rw [hX] at mx1 mx2 mx3 mx4
  replace mx4 := hide mx4
  clear hs5 hb5 hg5 ho6
  go_wp2_with fail
  refine (range_any b (N + 1 + 1) (-3) 3 w6 hs6 (by omega) (by omega) (by omega) (by omega)).mono ?_
  rintro e w7 ⟨ky, rfl, hky, ho7⟩
  have hb7 := hb6.gr ho7.1 (by intro e; injection e; omega)
  have hg7 := gr_trans hg6 ho7.1
  have hs7 := ho7.2
  obtain ⟨my1, my2, my3, my4⟩ := mult_mul3 hky.1 hky.2 hst
  obtain ⟨Y, hY⟩ : ∃ x, st * ky = x := ⟨_, rfl⟩
  rw [hY] at my1 my2 my3 my4
  replace my4 := hide my4
  clear hs6 hb6 hg6 ho7
  go_upto_region 3 with fail
  clear hX hY
  obtain ⟨w6, hw6⟩ : ∃ x, x = (w7).alloc (.cells [.int .i64 st, .int .i64 X, .int .i64 Y, .slice none 0 0].toArray 34) := ⟨_, rfl⟩
  have hg6 : (w7).grownBy w6 none := by rw [hw6]; exact gr_alloc (World.grownBy.refl _ _) _
  have hb6 : Box w6 (w7).heap.size 34 [.int .i64 st, .int .i64 X, .int .i64 Y, .slice none 0 0] := by rw [hw6]; exact Box.new _ _ _
  have hxs6 := hb6.lt
  rw [← hw6]
  clear hw6
  obtain ⟨x6, hx6⟩ : ∃ x, x = (w7).heap.size := ⟨_, rfl⟩
  rw [← hx6] at hb6 hxs6 ⊢
  have hxl6 : (w7).heap.size ≤ x6 := by omega
  clear hx6
  have hx64 : x6 ≠ x4 := by have := hb7.lt; omega
  have hwx6 : w.heap.size ≤ x6 := by have := hg7.size; omega
  have hx6b : b < x6 := by omega
  replace hb7 := hb7.pure hg6
  replace hs7 := hs7.pure hg6
  replace hg7 := gr_trans hg7 (gr_any hg6)
  clear hg6
  go_wp2_with fail
  refine (range_any b (N + 1 + 1 + 1) 1 6 w6 hs7 (by omega) (by omega) (by omega) (by omega)).mono ?_
  rintro e w8 ⟨R, rfl, hR, ho8⟩
  have hb8 := hb7.gr ho8.1 (by intro e; injection e; omega)
  have hc8 := hb6.gr ho8.1 (by intro e; injection e; omega)
  have hg8 := gr_trans hg7 ho8.1
  have hs8 := ho8.2.mono (show N + 1 + 1 + 1 + 1 ≤ N + 4 by omega)
  obtain ⟨RN, rfl⟩ : ∃ k : Nat, R = k := ⟨R.toNat, by omega⟩
  obtain ⟨WN, rfl⟩ : ∃ k : Nat, wide = k := ⟨wide.toNat, by omega⟩
  clear hs7 hb7 hg7 ho8 hb6 hkx hky
  have hO0 : Own w8 w.heap.size 9 none 0 ([] : List ByteArray) := Own.nil _ _ _
  have hr0 : Hid (∀ s ∈ ([] : List ByteArray), s.size ≤ 7 ∧ okR s = true) := fun s h => by cases h
  go_wp2_with fail
  go_loopw [22] (fun i wr => ∃ (j : Nat) (rows : List ByteArray) (A : Option Addr) (cc : Nat), j ≤ RN ∧ i = .int .i64 j ∧ rows.length = j ∧ Hid (∀ s ∈ rows, s.size ≤ 7 ∧ okR s = true) ∧ Box wr x6 34 [.int .i64 st, .int .i64 X, .int .i64 Y, .slice A j cc] ∧ Own wr w.heap.size 9 A cc rows ∧ Box wr x4 34 [.int .i64 0, .int .i64 0, .int .i64 0, .slice none 0 0] ∧ Strm wr b (N + 4 + 7 * j) ∧ w.grownBy wr (some b)) (fun i _ => RN - (intOf i).toNat)
  case atStart => exact ⟨0, [], none, 0, Nat.zero_le _, rfl, rfl, hr0, hc8, hO0, hb8, by simpa using hs8, hg8⟩
  case round =>
    clear hO0 hr0 hc8 hb8 hs8 hg8
    obtain ⟨j, rows, A, cc, hj, rfl, hlen, hrw, hb6, hO, hb4, hsr, hgr⟩ := hrel
    by_cases hlt : j < RN
    · have hkd : decide ((j : Int) < (RN : Int)) = true := by simp; omega
      have hj6 : j ≤ 5 := by omega
      have hself := World.grownBy.refl wr (some b)
      have hsr0 : Strm wr b (N + 4 + 7 * j + 0) := by simpa using hsr
      have he : Hid (okR ByteArray.empty = true) := by simp [Hid, okR]
      obtain ⟨wa, rfl⟩ : ∃ x, x = wr := ⟨_, rfl⟩
      replace hlen := hide hlen
      have hbwa : b < wa.heap.size := Nat.lt_of_lt_of_le hbw hgr.size
      go_wp2_with fail
      go_loopw [7, 25] (fun r i wx => ∃ (k : Nat) (L : ByteArray), k ≤ WN ∧ r = .string L ∧ i = .int .i64 k ∧ Hid (L.size = k) ∧ Hid (okR L = true) ∧ Strm wx b (N + 4 + 7 * j + k) ∧ wa.grownBy wx (some b)) (fun _ i _ => WN - (intOf i).toNat)
      case atStart => exact ⟨0, ByteArray.empty, Nat.zero_le _, rfl, rfl, rfl, he, hsr0, hself⟩
      case round =>
        clear hself hsr0 he
        obtain ⟨k, L, hk, rfl, rfl, hLk, hLo, hsx, hgx⟩ := hrel
        by_cases hkl : k < WN
        · have hLs : L.size ≤ 7 := by have := hLk.out; omega
          have hbwx : b + 1 ≤ wr.heap.size := by have := hgx.size; omega
          have hl := sl_strsAt wr (b + 1) 9 [(⟨#[35]⟩ : ByteArray), ⟨#[35]⟩, ⟨#[35]⟩, ⟨#[46]⟩] _ rfl hbwx (by simp [maxLen])
          simp only [List.map_cons, List.map_nil] at hl
          have hga := gr_alloc (World.grownBy.refl wr none) (.cells #[.string ⟨#[35]⟩, .string ⟨#[35]⟩, .string ⟨#[35]⟩, .string ⟨#[46]⟩] 9)
          have hSo := hide (someIn_any b (N + 4 + 7 * j + k) _ 4 4 _ _ (hsx.pure hga) (by omega) hl rfl (by omega))
          replace hl := hide hl
          go_wp2_with fail
          refine hSo.out.mono ?_
          rintro e w2 ⟨s, rfl, hmem, ho2⟩
          have hsz1 : s.size = 1 ∧ okR s = true := by
            simp only [List.mem_cons, List.not_mem_nil, or_false] at hmem
            rcases hmem with rfl | rfl | rfl | rfl <;> exact ⟨rfl, by decide⟩
          have hs1 := hsz1.1
          have hcat1 : Hid ((L ++ s).size = k + 1) := by rw [Hid, ByteArray.size_append, hLk.out, hs1]
          have hcat2 : Hid (okR (L ++ s) = true) := okR_append hLo.out hsz1.2
          have hs2 := ho2.2.mono (show N + 4 + 7 * j + k + 1 ≤ N + 4 + 7 * j + ((k + 1 : Nat) : Int) by omega)
          have hgx2 := gr_trans (gr_trans hgx (gr_any hga)) ho2.1
          have hss : s.size ≤ 7 := by omega
          clear hSo hl hmem hsz1 ho2 hga hsx hgx hLk hLo hs1
          go_wp2_with fail
          first
            | exact ⟨⟨k + 1, L ++ s, by omega, rfl, by go_num, hcat1, hcat2, hs2, hgx2⟩, by simp [intOf]; omega⟩
            | (go_roundw; (case rel => exact ⟨k + 1, L ++ s, by omega, rfl, by go_num, hcat1, hcat2, hs2, hgx2⟩); (case measure => simp [intOf]; omega))
        · obtain rfl : k = WN := by omega
          have hb6x := hb6.gr hgx (by intro e; injection e; omega)
          have hb4x := hb4.gr hgx (by intro e; injection e; omega)
          have hOx := hO.ne hgx (fun q e h => by injection h with h; have := (hO.blk_lt e).1; omega)
          have hgrx := gr_trans hgr hgx
          have hbwx : b + 1 ≤ wr.heap.size := by have := hgx.size; omega
          obtain ⟨q3, -⟩ := hb6x.c 3 rfl
          have hrw' : Hid (∀ s ∈ rows ++ [L], s.size ≤ 7 ∧ okR s = true) := fun s hs => by
            rcases List.mem_append.1 hs with h | h
            · exact hrw.out s h
            · rw [List.mem_singleton.1 h]
              exact ⟨by have := hLk.out; omega, hLo.out⟩
          have hlen' : Hid ((rows ++ [L]).length = j + 1) := by rw [Hid, List.length_append, hlen.out]; rfl
          have hlr := hlen.out
          obtain ⟨i0, hi0, hzz, hi1, hi2⟩ := info_parts info_strC
          replace hlr := hide hlr
          go_wp2_with (at_builtin; refine wpList_pushAt (α := ByteArray) _ rfl (.tmp 34) (.tmp 36) _ rfl w.heap.size 9 i0 _ 16 Tryz.underlying32 hi0 hzz hi1 hi2 rfl _ _ _ rows rfl hlr.out.symm (by exact hOx.pure (gr_alloc (World.grownBy.refl _ _) _)) 0 ⟨_, 0, none⟩ 1 1 [L] rfl rfl (by exact sl_oneAt _ 0 [.string L] _ _ _ (by first | rfl | simp) (Nat.zero_le _) rfl) ?c2 ?c3 ?c4 ?_)
          case c2 => simp only [List.length_cons, List.length_nil, hlr.out]; omega
          case c3 => simp only [List.length_cons, List.length_nil, hlr.out, maxLen]; omega
          case c4 => have := hgrx.size; simp; omega
          intro A15 c15 w15 hO15 hG15
          have hga := gr_alloc (World.grownBy.refl wr none) (.cells #[.string L] 9)
          have hO14a := hOx.pure hga
          have hb14a := hb6x.pure hga
          have hbl : ∀ q, blk A = some q → w.heap.size ≤ q := fun q e => (hO14a.blk_lt e).1
          have hb15 := hb14a.gr hG15.1 (hb14a.ne_own hO14a (by decide))
          have hc15 := (hb4x.pure hga).gr hG15.1 ((hb4x.pure hga).ne_own hO14a (by decide))
          have hs15 : Strm w15 b (N + 4 + 7 * ((j + 1 : Nat) : Int)) := ((hsx.pure hga).gr hG15.1 (fun q e => by have := hbl q e; omega)).mono (by omega)
          have hg15 : w.grownBy w15 (some b) := gr_row (gr_trans hgrx (gr_any hga)) hG15.1 (fun q e => hbl q e)
          obtain ⟨d3, f3⟩ := hb15.c 3 rfl
          go_wp2_with fail
          rw [hlr.out]
          have hgs : w15.grownBy (w15.setCell ⟨x6, 3, none⟩ (.slice A15 (j + 1) c15)) (some x6) := gr_set (World.grownBy.refl _ _) (.inl rfl) _
          have hb16 : Box (w15.setCell ⟨x6, 3, none⟩ (.slice A15 (j + 1) c15)) x6 34 [.int .i64 st, .int .i64 X, .int .i64 Y, .slice A15 (j + 1) c15] := hb15.set_ 3 _ (by simp)
          have hO16 := hO15.set_other (g' := x6) (i := 3) (.slice A15 (j + 1) c15) (hb15.ne_own hO15 (by decide))
          have hc16 := hc15.gr hgs (by intro e; injection e with e; exact hx64 e)
          have hs16 := hs15.gr hgs (fun q e => by injection e; omega)
          have hg16 : w.grownBy (w15.setCell ⟨x6, 3, none⟩ (.slice A15 (j + 1) c15)) (some b) := gr_row hg15 hgs (fun q e => by injection e; omega)
          generalize w15.setCell ⟨x6, 3, none⟩ (.slice A15 (j + 1) c15) = w16 at *
          exact ⟨⟨j + 1, rows ++ [L], A15, c15, by omega, by go_num, hlen'.out, hrw', hb16, hO16, hc16, hs16, hg16⟩, by simp [intOf]; omega⟩
    · obtain rfl : j = RN := by omega
      have hj6 : j ≤ 6 := by omega
      replace hsr := hsr.mono (show N + 4 + 7 * (j : Int) ≤ N + 46 by omega)
      have hlr := hide hlen
      have hj0 : 0 < j := by omega
      clear hlen hwd
      go_wp2_with fail
      refine (flip_any b (N + 46) 12 wr hsr (by omega) (by omega)).mono ?_
      rintro e w2 ⟨v, rfl, ho2⟩
      have hb6x := hb6.gr ho2.1 (by intro e; injection e; omega)
      have hb4x := hb4.gr ho2.1 (by intro e; injection e; omega)
      have hOx := hO.ne ho2.1 (fun q e h => by injection h with h; have := (hO.blk_lt e).1; omega)
      have hgrx := gr_trans hgr ho2.1
      have hs2 := ho2.2
      clear hb6 hb4 hO hgr hsr ho2
      have hz7 : ∀ s ∈ rows, s.size ≤ 1000 := fun s h => by have := (hrw.out s h).1; omega
      replace hz7 := hide hz7
      have hsm := hide (small7 hst mx1 mx2 mx3 my1 my2 my3 hrw.out (by rw [hlr.out]; omega))
      cases v
      · have hT := hide (trimmed_any ⟨st, X, Y, rows⟩ A j cc w2 ⟨(hOx.sl).mono (Nat.zero_le _), hlr.out, fun s h => by have := hz7.out s h; omega⟩ hsm.out.1 hsm.out.2)
        obtain ⟨⟨q0, -⟩, ⟨q1, -⟩, ⟨q2, -⟩, ⟨q3, -⟩⟩ := box4_c hb6x
        go_wp2_with fail
        refine hT.out.mono ?_
        rintro e w3 ⟨d, er, D, dd, rfl, hI, hO3, hg3⟩
        have hc3 := hb4x.pure hg3
        have hgE := gr_trans hgrx (gr_any hg3)
        have hsE := hs2.pure hg3
        have hO3' := Own.lower hO3 (show w.heap.size ≤ w2.heap.size from hgrx.size)
        obtain ⟨nd, hnd⟩ : ∃ q, q = d.rows.length := ⟨_, rfl⟩
        rw [← hnd]
        have hnE := hide hnd
        have hnr := hide (near_cells hI hst.1 (near7 mx4.out my4.out (fun s h => (hrw.out s h).1) (by rw [hlr.out]; omega)))
        have hzz := hide (fun s h => Nat.le_trans (hI.small s h) (by decide) : ∀ s ∈ d.rows, s.size ≤ 1000)
        clear hT q0 q1 q2 q3 hI hO3 hg3 hsm hz7 hnd
        obtain ⟨⟨d0, f0⟩, ⟨d1, f1⟩, ⟨d2, f2⟩, ⟨d3, f3⟩⟩ := box4_c hc3
        go_wp2_with fail
        clear d0 d1 d2 d3 f0 f1 f2 f3
        have hgf := gr_row hgE (set4_gr (w := w3) (g := x4) (.int .i64 d.step) (.int .i64 d.x) (.int .i64 d.y) (.slice D nd dd)) (fun q e => by injection e; omega)
        have hOf := (hO3').ne (set4_gr (w := w3) (g := x4) (.int .i64 d.step) (.int .i64 d.x) (.int .i64 d.y) (.slice D nd dd)) (fun x h e => (hc3).ne_own hO3' (by decide) (by injection e with e; rw [e]; exact h))
        have hsf := hsE.gr (set4_gr (w := w3) (g := x4) (.int .i64 d.step) (.int .i64 d.x) (.int .i64 d.y) (.slice D nd dd)) (fun q e => by injection e; omega)
        have hbf := box_set4 hc3 (.int .i64 d.step) (.int .i64 d.x) (.int .i64 d.y) (.slice D nd dd)
        generalize (((w3.setCell ⟨x4, 0, none⟩ (.int .i64 d.step)).setCell ⟨x4, 1, none⟩ (.int .i64 d.x)).setCell ⟨x4, 2, none⟩ (.int .i64 d.y)).setCell ⟨x4, 3, none⟩ (.slice D nd dd) = wf at *
        obtain ⟨⟨d0, f0⟩, ⟨d1, f1⟩, ⟨d2, f2⟩, ⟨d3, f3⟩⟩ := box4_c hbf
        exact bodyPost_ret (v := .agg #[.int .i64 d.step, .int .i64 d.x, .int .i64 d.y, .slice D nd dd]) (by simp [results, Tryz.results9, go_sem, d0, d1, d2, d3, f0, f1, f2, f3]) rfl ⟨⟨d.step, d.x, d.y, d.rows⟩, D, dd, by rw [hnE.out], (hOf.sl).mono (by omega), hzz.out, ⟨hgf, hsf.mono (by omega)⟩, hnr.out⟩
      · clear hsm
        go_wp2_with fail
        refine (next_any b (N + 46 + 1) 4 w2 hs2 (by omega) (by omega)).mono ?_
        rintro e w3 ⟨r, rfl, hr, ho3⟩
        have hb63 := hb6x.gr ho3.1 (by intro e; injection e; omega)
        have hb43 := hb4x.gr ho3.1 (by intro e; injection e; omega)
        have hO3 := hOx.ne ho3.1 (fun q e h => by injection h with h; have := (hOx.blk_lt e).1; omega)
        have hgE := gr_trans hgrx ho3.1
        have hsE := ho3.2
        have hlrE := hlr
        clear hb6x hb4x hOx hgrx ho3 hs2
        have hr4 : r = 0 ∨ r = 1 ∨ r = 2 ∨ r = 3 := by omega
        clear hr
        rcases hr4 with rfl | rfl | rfl | rfl
        · obtain ⟨⟨q0, -⟩, ⟨q1, p1⟩, ⟨q2, -⟩, ⟨q3, -⟩⟩ := box4_c hb63
          go_upto_region 21 with fail
          clear q0 q1 q2 q3 p1
          have hgs : w3.grownBy (w3.setCell ⟨x6, 1, none⟩ (.int .i64 (X + 1))) (some x6) := gr_set (World.grownBy.refl _ _) (.inl rfl) _
          have hb7 : Box (w3.setCell ⟨x6, 1, none⟩ (.int .i64 (X + 1))) x6 34 [.int .i64 st, .int .i64 (X + 1), .int .i64 Y, .slice A j cc] := hb63.set_ 1 _ (by simp)
          have hO7 := hO3.set_other (g' := x6) (i := 1) (Value.int .i64 (X + 1)) (hb63.ne_own hO3 (by decide))
          have hc7 := hb43.gr hgs (by intro e; injection e with e; exact hx64 e)
          replace hsE := hsE.gr hgs (fun q e => by injection e; omega)
          replace hgE := gr_row hgE hgs (fun q e => by injection e; omega)
          generalize w3.setCell ⟨x6, 1, none⟩ (.int .i64 (X + 1)) = w7 at *
          have hnE : Hid (j = rows.length) := hlrE.out.symm
          obtain ⟨⟨q0, -⟩, ⟨q1, -⟩, ⟨q2, -⟩, ⟨q3, -⟩⟩ := box4_c hb7
          obtain ⟨⟨d0, f0⟩, ⟨d1, f1⟩, ⟨d2, f2⟩, ⟨d3, f3⟩⟩ := box4_c hc7
          go_wp2_with fail
          clear d0 d1 d2 d3 f0 f1 f2 f3
          have hgf := gr_row hgE (set4_gr (w := w7) (g := x4) (.int .i64 st) (.int .i64 (X + 1)) (.int .i64 Y) (.slice A j cc)) (fun q e => by injection e; omega)
          have hOf := (hO7).ne (set4_gr (w := w7) (g := x4) (.int .i64 st) (.int .i64 (X + 1)) (.int .i64 Y) (.slice A j cc)) (fun x h e => (hc7).ne_own hO7 (by decide) (by injection e with e; rw [e]; exact h))
          have hsf := hsE.gr (set4_gr (w := w7) (g := x4) (.int .i64 st) (.int .i64 (X + 1)) (.int .i64 Y) (.slice A j cc)) (fun q e => by injection e; omega)
          have hbf := box_set4 hc7 (.int .i64 st) (.int .i64 (X + 1)) (.int .i64 Y) (.slice A j cc)
          generalize (((w7.setCell ⟨x4, 0, none⟩ (.int .i64 st)).setCell ⟨x4, 1, none⟩ (.int .i64 (X + 1))).setCell ⟨x4, 2, none⟩ (.int .i64 Y)).setCell ⟨x4, 3, none⟩ (.slice A j cc) = wf at *
          obtain ⟨⟨d0, f0⟩, ⟨d1, f1⟩, ⟨d2, f2⟩, ⟨d3, f3⟩⟩ := box4_c hbf
          exact bodyPost_ret (v := .agg #[.int .i64 st, .int .i64 (X + 1), .int .i64 Y, .slice A j cc]) (by simp [results, Tryz.results9, go_sem, d0, d1, d2, d3, f0, f1, f2, f3]) rfl ⟨⟨st, (X + 1), Y, rows⟩, A, cc, by rw [hnE.out], (hOf.sl).mono (by omega), hz7.out, ⟨hgf, hsf.mono (by omega)⟩, near_off hst.1 mx3⟩
        · obtain ⟨gA, rfl, hgA, hgA2⟩ := hO3.shape (by rw [hlrE.out]; omega)
          go_upto_region 18 with fail
          have hlk := hide (fun wx (h : w3.grownBy wx (some b)) => box4_c (hb63.gr h (by intro e; injection e; omega)))
          refine wp_region_tree (fun wx => w3.grownBy wx (some b)) [2, 1, 2, 2, 1, 2, 0, 2, 0, 0, 2, 0] (.bl 0 (.bl 1 (.bl 2 (.bl 3 (.bl 4 (.bl 5 (.bl 7 (.alt (.ef 6 (.ef 8 (.ef 9 (.bl 10 (.ef 11 .done))))) (.ef 8 (.ef 6 (.ef 9 (.bl 10 (.ef 11 .done))))))))))))) (by kernel_rfl) (by kernel_rfl) (gr_any (gr_drew (World.grownBy.refl _ _))) ?_
          obtain ⟨W1, hW1⟩ : ∃ x, x = (w3).drew := ⟨_, rfl⟩
          rw [← hW1]
          have hgW1 : (w3).grownBy W1 none := by rw [hW1]; exact gr_drew (World.grownBy.refl _ _)
          clear hW1
          have hcur := gr_any (r := some b) hgW1
          have hScur := hsE.pure hgW1
          have hOcur := hO3.pure hgW1
          clear hsE hO3
          refine tree_p rfl rfl rfl rfl _ rfl (by simp) (fun K hK => ?_)
          apply Exists.intro
          refine ⟨fun wq K' hK' => ?_, ?_⟩
          · go_wp2_with fail
            exact hK'
          go_simp
          refine hK _ ?_
          clear hK K
          refine tree_b rfl rfl rfl rfl _ rfl (by simp) (fun K hK => ?_)
          apply Exists.intro
          refine ⟨fun wq hq K' hK' => ?_, ?_⟩
          · obtain ⟨-, -, -, ⟨q3, -⟩⟩ := hlk.out wq hq
            go_wp2_with fail
            exact hK'
          go_simp
          refine hK _ ?_
          clear hK K
          refine tree_p rfl rfl rfl rfl _ rfl (by simp) (fun K hK => ?_)
          apply Exists.intro
          refine ⟨fun wq K' hK' => ?_, ?_⟩
          · go_wp2_with fail
            exact hK'
          go_simp
          refine hK _ ?_
          clear hK K
          refine tree_p rfl rfl rfl rfl _ rfl (by simp) (fun K hK => ?_)
          apply Exists.intro
          refine ⟨fun wq K' hK' => ?_, ?_⟩
          · go_wp2_with fail
            exact hK'
          go_simp
          refine hK _ ?_
          clear hK K
          refine tree_b rfl rfl rfl rfl _ rfl (by simp) (fun K hK => ?_)
          apply Exists.intro
          refine ⟨fun wq hq K' hK' => ?_, ?_⟩
          · obtain ⟨-, -, -, ⟨q3, -⟩⟩ := hlk.out wq hq
            go_wp2_with fail
            exact hK'
          go_simp
          refine hK _ ?_
          clear hK K
          refine tree_p rfl rfl rfl rfl _ rfl (by simp) (fun K hK => ?_)
          apply Exists.intro
          refine ⟨fun wq K' hK' => ?_, ?_⟩
          · go_wp2_with fail
            exact hK'
          go_simp
          refine hK _ ?_
          clear hK K
          refine tree_p rfl rfl rfl rfl _ rfl (by simp) (fun K hK => ?_)
          apply Exists.intro
          refine ⟨fun wq K' hK' => ?_, ?_⟩
          · go_wp2_with fail
            exact hK'
          go_simp
          refine hK _ ?_
          clear hK K
          refine tree_alt ?_ ?_
          · refine tree_e rfl rfl (fun K hK => ?_)
            go_wp2_with fail
            refine (next_any b _ j W1 hScur (by omega) (by omega)).mono ?_
            rintro e u6 ⟨i6, rfl, hi6, ho6⟩
            obtain ⟨I, rfl⟩ := Int.eq_ofNat_of_zero_le hi6.1
            go_wp2_with fail
            try go_simp
            refine hK _ _ (gr_trans hcur ho6.1) ?_
            clear hK K
            replace hOcur := hOcur.ne ho6.1 (fun q e h => by injection h with h; have := (hOcur.blk_lt e).1; omega)
            replace hcur := gr_trans hcur ho6.1
            replace hScur := ho6.2
            clear ho6
            refine tree_e rfl rfl (fun K hK => ?_)
            go_wp2_with fail
            try go_simp
            refine hK _ _ (gr_alloc hcur _) ?_
            clear hK K
            obtain ⟨w8, hw8⟩ : ∃ x, x = (u6).alloc (.cells #[.string ⟨#[]⟩, .string ⟨#[120]⟩, .string ⟨#[46]⟩] 9) := ⟨_, rfl⟩
            have hg8 : (u6).grownBy w8 none := by rw [hw8]; exact gr_alloc (World.grownBy.refl _ _) _
            have hSl : Sl w8 (b + 1) (some ⟨(u6).heap.size, 0, none⟩) ([⟨#[]⟩, ⟨#[120]⟩, ⟨#[46]⟩] : List ByteArray) := by
              rw [hw8]; exact sl_strsAt _ _ _ [⟨#[]⟩, ⟨#[120]⟩, ⟨#[46]⟩] _ rfl (by have := hcur.size; omega) (by simp [maxLen])
            rw [← hw8]
            clear hw8
            obtain ⟨x8, hx8⟩ : ∃ x, x = (u6).heap.size := ⟨_, rfl⟩
            rw [← hx8] at hSl ⊢
            clear hx8
            replace hOcur := hOcur.pure hg8
            replace hScur := hScur.pure hg8
            replace hcur := gr_trans hcur (gr_any hg8)
            refine tree_e rfl rfl (fun K hK => ?_)
            go_wp2_with fail
            refine (someIn_any b _ _ 3 3 _ w8 hScur (by omega) hSl rfl (by omega)).mono ?_
            rintro e u9 ⟨s9, rfl, hm9, ho9⟩
            go_wp2_with fail
            try go_simp
            refine hK _ _ (gr_trans hcur ho9.1) ?_
            clear hK K
            replace hOcur := hOcur.ne ho9.1 (fun q e h => by injection h with h; have := (hOcur.blk_lt e).1; omega)
            replace hcur := gr_trans hcur ho9.1
            replace hScur := ho9.2
            have hz9 : s9.size ≤ 1 := by
              simp only [List.mem_cons, List.not_mem_nil, or_false] at hm9
              rcases hm9 with rfl | rfl | rfl <;> decide
            clear ho9 hSl hm9
            refine tree_p rfl rfl rfl rfl _ rfl (by simp) (fun K hK => ?_)
            apply Exists.intro
            refine ⟨fun wq K' hK' => ?_, ?_⟩
            · go_wp2_with fail
              exact hK'
            go_simp
            refine hK _ ?_
            clear hK K
            refine tree_e0 (by kernel_rfl) rfl rfl (fun K hK => ?_)
            have hIl : I < rows.length := by rw [hlrE.out]; omega
            have c0 : (u9).cell? ⟨gA, I, none⟩ = some (.string rows[I]) := by
              obtain ⟨c1, hr, hc⟩ := hOcur.cell_at (by decide) hIl
              obtain rfl : c1 = [.string rows[I]] := hr
              have := hc 0 _ rfl
              rwa [show Enc.sz ByteArray = 1 from rfl, Nat.mul_one] at this
            have f0 := hOcur.frozen I
            replace hlrE := hide hlrE.out
            go_wp2_with fail
            try go_simp
            refine hK _ _ trivial ?_
            clear hK K
            refine tree_done ?_
            have hgs : (u9).grownBy ((u9.setCell ⟨gA, I, none⟩ (.string s9))) (some gA) := gr_set (World.grownBy.refl _ _) (.inl rfl) _
            have hO7 := hOcur.set_str hIl s9
            have hbc := hb63.gr hcur (by intro e; injection e; omega)
            have hb7 := hbc.gr hgs (by intro e; exact hbc.ne_own hOcur (by decide) e)
            have hcc := hb43.gr hcur (by intro e; injection e; omega)
            have hc7 := hcc.gr hgs (by intro e; exact hcc.ne_own hOcur (by decide) e)
            replace hsE := hScur.gr hgs (fun q e => by injection e; omega)
            replace hgE := gr_row (gr_trans hgE hcur) hgs (fun q e => by injection e; omega)
            generalize ((u9.setCell ⟨gA, I, none⟩ (.string s9))) = w7 at *
            have hnE : Hid (j = (rows.set I s9).length) := by rw [Hid, List.length_set]; exact hlrE.out.symm
            have hnr := hide (near7 (rows := rows.set I s9) mx4.out my4.out (fun s h => by
              rcases List.mem_or_eq_of_mem_set h with h | h
              · exact (hrw.out s h).1
              · rw [h]; omega) (by rw [List.length_set, hlrE.out]; omega))
            have hzz : Hid (∀ s ∈ rows.set I s9, s.size ≤ 1000) := fun s h => by
              rcases List.mem_or_eq_of_mem_set h with h | h
              · exact hz7.out s h
              · rw [h]; omega
            obtain ⟨⟨q0, -⟩, ⟨q1, -⟩, ⟨q2, -⟩, ⟨q3, -⟩⟩ := box4_c hb7
            clear c0 f0 hbc hcc hgs hOcur hScur
            obtain ⟨⟨d0, f0⟩, ⟨d1, f1⟩, ⟨d2, f2⟩, ⟨d3, f3⟩⟩ := box4_c hc7
            go_wp2_with fail
            clear d0 d1 d2 d3 f0 f1 f2 f3
            have hgf := gr_row hgE (set4_gr (w := w7) (g := x4) (.int .i64 st) (.int .i64 X) (.int .i64 Y) (.slice (some ⟨gA, 0, none⟩ : Option Addr) j cc)) (fun q e => by injection e; omega)
            have hOf := (hO7).ne (set4_gr (w := w7) (g := x4) (.int .i64 st) (.int .i64 X) (.int .i64 Y) (.slice (some ⟨gA, 0, none⟩ : Option Addr) j cc)) (fun x h e => (hc7).ne_own hO7 (by decide) (by injection e with e; rw [e]; exact h))
            have hsf := hsE.gr (set4_gr (w := w7) (g := x4) (.int .i64 st) (.int .i64 X) (.int .i64 Y) (.slice (some ⟨gA, 0, none⟩ : Option Addr) j cc)) (fun q e => by injection e; omega)
            have hbf := box_set4 hc7 (.int .i64 st) (.int .i64 X) (.int .i64 Y) (.slice (some ⟨gA, 0, none⟩ : Option Addr) j cc)
            generalize (((w7.setCell ⟨x4, 0, none⟩ (.int .i64 st)).setCell ⟨x4, 1, none⟩ (.int .i64 X)).setCell ⟨x4, 2, none⟩ (.int .i64 Y)).setCell ⟨x4, 3, none⟩ (.slice (some ⟨gA, 0, none⟩ : Option Addr) j cc) = wf at *
            obtain ⟨⟨d0, f0⟩, ⟨d1, f1⟩, ⟨d2, f2⟩, ⟨d3, f3⟩⟩ := box4_c hbf
            exact bodyPost_ret (v := .agg #[.int .i64 st, .int .i64 X, .int .i64 Y, .slice (some ⟨gA, 0, none⟩ : Option Addr) j cc]) (by simp [results, Tryz.results9, go_sem, d0, d1, d2, d3, f0, f1, f2, f3]) rfl ⟨⟨st, X, Y, (rows.set I s9)⟩, (some ⟨gA, 0, none⟩ : Option Addr), cc, by rw [hnE.out], (hOf.sl).mono (by omega), hzz.out, ⟨hgf, hsf.mono (by omega)⟩, (fun _ => ⟨rfl, hnr.out⟩)⟩
          · refine tree_e rfl rfl (fun K hK => ?_)
            go_wp2_with fail
            try go_simp
            refine hK _ _ (gr_alloc hcur _) ?_
            clear hK K
            obtain ⟨w8, hw8⟩ : ∃ x, x = (W1).alloc (.cells #[.string ⟨#[]⟩, .string ⟨#[120]⟩, .string ⟨#[46]⟩] 9) := ⟨_, rfl⟩
            have hg8 : (W1).grownBy w8 none := by rw [hw8]; exact gr_alloc (World.grownBy.refl _ _) _
            have hSl : Sl w8 (b + 1) (some ⟨(W1).heap.size, 0, none⟩) ([⟨#[]⟩, ⟨#[120]⟩, ⟨#[46]⟩] : List ByteArray) := by
              rw [hw8]; exact sl_strsAt _ _ _ [⟨#[]⟩, ⟨#[120]⟩, ⟨#[46]⟩] _ rfl (by have := hcur.size; omega) (by simp [maxLen])
            rw [← hw8]
            clear hw8
            obtain ⟨x8, hx8⟩ : ∃ x, x = (W1).heap.size := ⟨_, rfl⟩
            rw [← hx8] at hSl ⊢
            clear hx8
            replace hOcur := hOcur.pure hg8
            replace hScur := hScur.pure hg8
            replace hcur := gr_trans hcur (gr_any hg8)
            refine tree_e rfl rfl (fun K hK => ?_)
            go_wp2_with fail
            refine (next_any b _ j w8 hScur (by omega) (by omega)).mono ?_
            rintro e u6 ⟨i6, rfl, hi6, ho6⟩
            obtain ⟨I, rfl⟩ := Int.eq_ofNat_of_zero_le hi6.1
            go_wp2_with fail
            try go_simp
            refine hK _ _ (gr_trans hcur ho6.1) ?_
            clear hK K
            replace hOcur := hOcur.ne ho6.1 (fun q e h => by injection h with h; have := (hOcur.blk_lt e).1; omega)
            replace hSl := hSl.gr ho6.1 (fun q e => by injection e; omega)
            replace hcur := gr_trans hcur ho6.1
            replace hScur := ho6.2
            clear ho6
            refine tree_e rfl rfl (fun K hK => ?_)
            go_wp2_with fail
            refine (someIn_any b _ _ 3 3 _ u6 hScur (by omega) hSl rfl (by omega)).mono ?_
            rintro e u9 ⟨s9, rfl, hm9, ho9⟩
            go_wp2_with fail
            try go_simp
            refine hK _ _ (gr_trans hcur ho9.1) ?_
            clear hK K
            replace hOcur := hOcur.ne ho9.1 (fun q e h => by injection h with h; have := (hOcur.blk_lt e).1; omega)
            replace hcur := gr_trans hcur ho9.1
            replace hScur := ho9.2
            have hz9 : s9.size ≤ 1 := by
              simp only [List.mem_cons, List.not_mem_nil, or_false] at hm9
              rcases hm9 with rfl | rfl | rfl <;> decide
            clear ho9 hSl hm9
            refine tree_p rfl rfl rfl rfl _ rfl (by simp) (fun K hK => ?_)
            apply Exists.intro
            refine ⟨fun wq K' hK' => ?_, ?_⟩
            · go_wp2_with fail
              exact hK'
            go_simp
            refine hK _ ?_
            clear hK K
            refine tree_e0 (by kernel_rfl) rfl rfl (fun K hK => ?_)
            have hIl : I < rows.length := by rw [hlrE.out]; omega
            have c0 : (u9).cell? ⟨gA, I, none⟩ = some (.string rows[I]) := by
              obtain ⟨c1, hr, hc⟩ := hOcur.cell_at (by decide) hIl
              obtain rfl : c1 = [.string rows[I]] := hr
              have := hc 0 _ rfl
              rwa [show Enc.sz ByteArray = 1 from rfl, Nat.mul_one] at this
            have f0 := hOcur.frozen I
            replace hlrE := hide hlrE.out
            go_wp2_with fail
            try go_simp
            refine hK _ _ trivial ?_
            clear hK K
            refine tree_done ?_
            have hgs : (u9).grownBy ((u9.setCell ⟨gA, I, none⟩ (.string s9))) (some gA) := gr_set (World.grownBy.refl _ _) (.inl rfl) _
            have hO7 := hOcur.set_str hIl s9
            have hbc := hb63.gr hcur (by intro e; injection e; omega)
            have hb7 := hbc.gr hgs (by intro e; exact hbc.ne_own hOcur (by decide) e)
            have hcc := hb43.gr hcur (by intro e; injection e; omega)
            have hc7 := hcc.gr hgs (by intro e; exact hcc.ne_own hOcur (by decide) e)
            replace hsE := hScur.gr hgs (fun q e => by injection e; omega)
            replace hgE := gr_row (gr_trans hgE hcur) hgs (fun q e => by injection e; omega)
            generalize ((u9.setCell ⟨gA, I, none⟩ (.string s9))) = w7 at *
            have hnE : Hid (j = (rows.set I s9).length) := by rw [Hid, List.length_set]; exact hlrE.out.symm
            have hnr := hide (near7 (rows := rows.set I s9) mx4.out my4.out (fun s h => by
              rcases List.mem_or_eq_of_mem_set h with h | h
              · exact (hrw.out s h).1
              · rw [h]; omega) (by rw [List.length_set, hlrE.out]; omega))
            have hzz : Hid (∀ s ∈ rows.set I s9, s.size ≤ 1000) := fun s h => by
              rcases List.mem_or_eq_of_mem_set h with h | h
              · exact hz7.out s h
              · rw [h]; omega
            obtain ⟨⟨q0, -⟩, ⟨q1, -⟩, ⟨q2, -⟩, ⟨q3, -⟩⟩ := box4_c hb7
            clear c0 f0 hbc hcc hgs hOcur hScur
            obtain ⟨⟨d0, f0⟩, ⟨d1, f1⟩, ⟨d2, f2⟩, ⟨d3, f3⟩⟩ := box4_c hc7
            go_wp2_with fail
            clear d0 d1 d2 d3 f0 f1 f2 f3
            have hgf := gr_row hgE (set4_gr (w := w7) (g := x4) (.int .i64 st) (.int .i64 X) (.int .i64 Y) (.slice (some ⟨gA, 0, none⟩ : Option Addr) j cc)) (fun q e => by injection e; omega)
            have hOf := (hO7).ne (set4_gr (w := w7) (g := x4) (.int .i64 st) (.int .i64 X) (.int .i64 Y) (.slice (some ⟨gA, 0, none⟩ : Option Addr) j cc)) (fun x h e => (hc7).ne_own hO7 (by decide) (by injection e with e; rw [e]; exact h))
            have hsf := hsE.gr (set4_gr (w := w7) (g := x4) (.int .i64 st) (.int .i64 X) (.int .i64 Y) (.slice (some ⟨gA, 0, none⟩ : Option Addr) j cc)) (fun q e => by injection e; omega)
            have hbf := box_set4 hc7 (.int .i64 st) (.int .i64 X) (.int .i64 Y) (.slice (some ⟨gA, 0, none⟩ : Option Addr) j cc)
            generalize (((w7.setCell ⟨x4, 0, none⟩ (.int .i64 st)).setCell ⟨x4, 1, none⟩ (.int .i64 X)).setCell ⟨x4, 2, none⟩ (.int .i64 Y)).setCell ⟨x4, 3, none⟩ (.slice (some ⟨gA, 0, none⟩ : Option Addr) j cc) = wf at *
            obtain ⟨⟨d0, f0⟩, ⟨d1, f1⟩, ⟨d2, f2⟩, ⟨d3, f3⟩⟩ := box4_c hbf
            exact bodyPost_ret (v := .agg #[.int .i64 st, .int .i64 X, .int .i64 Y, .slice (some ⟨gA, 0, none⟩ : Option Addr) j cc]) (by simp [results, Tryz.results9, go_sem, d0, d1, d2, d3, f0, f1, f2, f3]) rfl ⟨⟨st, X, Y, (rows.set I s9)⟩, (some ⟨gA, 0, none⟩ : Option Addr), cc, by rw [hnE.out], (hOf.sl).mono (by omega), hzz.out, ⟨hgf, hsf.mono (by omega)⟩, (fun _ => ⟨rfl, hnr.out⟩)⟩
        · have hl := sl_intsAt w3 (b + 1) 3 [1, 3, 0, -2, 10002] _ rfl (by have := hgE.size; omega) (by simp [maxLen])
          simp only [List.map_cons, List.map_nil] at hl
          have hga := gr_alloc (World.grownBy.refl w3 none) (.cells #[.int .i64 1, .int .i64 3, .int .i64 0, .int .i64 (-2), .int .i64 10002] 3)
          have hP := hide (pick_any b (N + 46 + 1 + 1) _ 5 5 _ _ (hsE.pure hga) (by omega) hl rfl (by omega))
          have hb64 := hb63.pure hga
          have hb44 := hb43.pure hga
          have hO4 := hO3.pure hga
          replace hgE := gr_trans hgE (gr_any hga)
          clear hb63 hb43 hO3 hsE
          go_wp2_with fail
          refine hP.out.mono ?_
          rintro e w5 ⟨st', rfl, hst', ho5⟩
          have hb65 := hb64.gr ho5.1 (by intro e; injection e; omega)
          have hb45 := hb44.gr ho5.1 (by intro e; injection e; omega)
          have hO5 := hO4.ne ho5.1 (fun q e h => by injection h with h; have := (hO4.blk_lt e).1; omega)
          replace hgE := gr_trans hgE ho5.1
          have hsE := ho5.2
          clear hb64 hb44 hO4 hP ho5 hga hl
          replace hst' := hide hst'
          obtain ⟨⟨q0, p0⟩, ⟨q1, -⟩, ⟨q2, -⟩, ⟨q3, -⟩⟩ := box4_c hb65
          go_upto_region 21 with fail
          clear q0 q1 q2 q3 p0
          have hgs : w5.grownBy (w5.setCell ⟨x6, 0, none⟩ (.int .i64 st')) (some x6) := gr_set (World.grownBy.refl _ _) (.inl rfl) _
          have hb7 : Box (w5.setCell ⟨x6, 0, none⟩ (.int .i64 st')) x6 34 [.int .i64 st', .int .i64 X, .int .i64 Y, .slice A j cc] := hb65.set_ 0 _ (by simp)
          have hO7 := hO5.set_other (g' := x6) (i := 0) (Value.int .i64 st') (hb65.ne_own hO5 (by decide))
          have hc7 := hb45.gr hgs (by intro e; injection e with e; exact hx64 e)
          replace hsE := hsE.gr hgs (fun q e => by injection e; omega)
          replace hgE := gr_row hgE hgs (fun q e => by injection e; omega)
          generalize w5.setCell ⟨x6, 0, none⟩ (.int .i64 st') = w7 at *
          have hnE : Hid (j = rows.length) := hlrE.out.symm
          obtain ⟨⟨q0, -⟩, ⟨q1, -⟩, ⟨q2, -⟩, ⟨q3, -⟩⟩ := box4_c hb7
          obtain ⟨⟨d0, f0⟩, ⟨d1, f1⟩, ⟨d2, f2⟩, ⟨d3, f3⟩⟩ := box4_c hc7
          go_wp2_with fail
          clear d0 d1 d2 d3 f0 f1 f2 f3
          have hgf := gr_row hgE (set4_gr (w := w7) (g := x4) (.int .i64 st') (.int .i64 X) (.int .i64 Y) (.slice A j cc)) (fun q e => by injection e; omega)
          have hOf := (hO7).ne (set4_gr (w := w7) (g := x4) (.int .i64 st') (.int .i64 X) (.int .i64 Y) (.slice A j cc)) (fun x h e => (hc7).ne_own hO7 (by decide) (by injection e with e; rw [e]; exact h))
          have hsf := hsE.gr (set4_gr (w := w7) (g := x4) (.int .i64 st') (.int .i64 X) (.int .i64 Y) (.slice A j cc)) (fun q e => by injection e; omega)
          have hbf := box_set4 hc7 (.int .i64 st') (.int .i64 X) (.int .i64 Y) (.slice A j cc)
          generalize (((w7.setCell ⟨x4, 0, none⟩ (.int .i64 st')).setCell ⟨x4, 1, none⟩ (.int .i64 X)).setCell ⟨x4, 2, none⟩ (.int .i64 Y)).setCell ⟨x4, 3, none⟩ (.slice A j cc) = wf at *
          obtain ⟨⟨d0, f0⟩, ⟨d1, f1⟩, ⟨d2, f2⟩, ⟨d3, f3⟩⟩ := box4_c hbf
          exact bodyPost_ret (v := .agg #[.int .i64 st', .int .i64 X, .int .i64 Y, .slice A j cc]) (by simp [results, Tryz.results9, go_sem, d0, d1, d2, d3, f0, f1, f2, f3]) rfl ⟨⟨st', X, Y, rows⟩, A, cc, by rw [hnE.out], (hOf.sl).mono (by omega), hz7.out, ⟨hgf, hsf.mono (by omega)⟩, near_step hst'.out⟩
        · obtain ⟨⟨q0, -⟩, ⟨q1, -⟩, ⟨q2, -⟩, ⟨q3, p3⟩⟩ := box4_c hb63
          go_upto_region 21 with fail
          clear q0 q1 q2 q3 p3
          have hgs : w3.grownBy (w3.setCell ⟨x6, 3, none⟩ (.slice none 0 0)) (some x6) := gr_set (World.grownBy.refl _ _) (.inl rfl) _
          have hb7 : Box (w3.setCell ⟨x6, 3, none⟩ (.slice none 0 0)) x6 34 [.int .i64 st, .int .i64 X, .int .i64 Y, .slice none 0 0] := hb63.set_ 3 _ (by simp)
          have hO7 : Own (w3.setCell ⟨x6, 3, none⟩ (.slice none 0 0)) w.heap.size 9 none 0 ([] : List ByteArray) := Own.nil _ _ _
          have hc7 := hb43.gr hgs (by intro e; injection e with e; exact hx64 e)
          replace hsE := hsE.gr hgs (fun q e => by injection e; omega)
          replace hgE := gr_row hgE hgs (fun q e => by injection e; omega)
          generalize w3.setCell ⟨x6, 3, none⟩ (.slice none 0 0) = w7 at *
          have hnE : Hid (0 = ([] : List ByteArray).length) := rfl
          have hzz : Hid (∀ s ∈ ([] : List ByteArray), s.size ≤ 1000) := fun s h => by cases h
          obtain ⟨⟨q0, -⟩, ⟨q1, -⟩, ⟨q2, -⟩, ⟨q3, -⟩⟩ := box4_c hb7
          obtain ⟨⟨d0, f0⟩, ⟨d1, f1⟩, ⟨d2, f2⟩, ⟨d3, f3⟩⟩ := box4_c hc7
          go_wp2_with fail
          clear d0 d1 d2 d3 f0 f1 f2 f3
          have hgf := gr_row hgE (set4_gr (w := w7) (g := x4) (.int .i64 st) (.int .i64 X) (.int .i64 Y) (.slice (none : Option Addr) 0 0)) (fun q e => by injection e; omega)
          have hOf := (hO7).ne (set4_gr (w := w7) (g := x4) (.int .i64 st) (.int .i64 X) (.int .i64 Y) (.slice (none : Option Addr) 0 0)) (fun x h e => (hc7).ne_own hO7 (by decide) (by injection e with e; rw [e]; exact h))
          have hsf := hsE.gr (set4_gr (w := w7) (g := x4) (.int .i64 st) (.int .i64 X) (.int .i64 Y) (.slice (none : Option Addr) 0 0)) (fun q e => by injection e; omega)
          have hbf := box_set4 hc7 (.int .i64 st) (.int .i64 X) (.int .i64 Y) (.slice (none : Option Addr) 0 0)
          generalize (((w7.setCell ⟨x4, 0, none⟩ (.int .i64 st)).setCell ⟨x4, 1, none⟩ (.int .i64 X)).setCell ⟨x4, 2, none⟩ (.int .i64 Y)).setCell ⟨x4, 3, none⟩ (.slice (none : Option Addr) 0 0) = wf at *
          obtain ⟨⟨d0, f0⟩, ⟨d1, f1⟩, ⟨d2, f2⟩, ⟨d3, f3⟩⟩ := box4_c hbf
          exact bodyPost_ret (v := .agg #[.int .i64 st, .int .i64 X, .int .i64 Y, .slice (none : Option Addr) 0 0]) (by simp [results, Tryz.results9, go_sem, d0, d1, d2, d3, f0, f1, f2, f3]) rfl ⟨⟨st, X, Y, ([] : List ByteArray)⟩, (none : Option Addr), 0, by rw [hnE.out], (hOf.sl).mono (by omega), hzz.out, ⟨hgf, hsf.mono (by omega)⟩, near_nil⟩

end Go.Proofs.YtgcpegjggakemaaGreatDoor

namespace Go.Proofs.YtgcpegjggakemaaGreatDoor
open Go Go.RowKit Go.Bl

set_option maxHeartbeats 2000000 in
set_option maxRecDepth 100000 in
theorem sameCells_any (c : Cel) (A : Option Addr) (n cc : Nat) (B : Option Addr) (dd : Nat) (w : World) (ha : Sl w 0 A c.rows) (hb : Sl w 0 B c.rows) (hn : c.rows.length = n) :
    Calls Tryz.prog 15 #[.agg #[.int .i64 (c).step, .int .i64 (c).x, .int .i64 (c).y, .slice A n cc], .agg #[.int .i64 (c).step, .int .i64 (c).x, .int .i64 (c).y, .slice B n dd]] w fun e w' => e = .returned (.bool true) ∧ w.grownBy w' none := by
  subst hn
  go_enter Tryz.func15, Tryz.ntmps15
  go_upto_region 1 with fail
  obtain ⟨w4, hw4⟩ : ∃ x, x = ((w).alloc (.cells [.int .i64 (c).step, .int .i64 (c).x, .int .i64 (c).y, .slice A c.rows.length cc].toArray 34)).alloc (.cells [.int .i64 (c).step, .int .i64 (c).x, .int .i64 (c).y, .slice B c.rows.length dd].toArray 34) := ⟨_, rfl⟩
  have hba4 : Box w4 (w).heap.size 34 [.int .i64 (c).step, .int .i64 (c).x, .int .i64 (c).y, .slice A c.rows.length cc] := by
    rw [hw4]; exact (Box.new (w) [.int .i64 (c).step, .int .i64 (c).x, .int .i64 (c).y, .slice A c.rows.length cc] 34).pure (gr_alloc (World.grownBy.refl _ _) _)
  have hbb4 : Box w4 ((w).heap.size + 1) 34 [.int .i64 (c).step, .int .i64 (c).x, .int .i64 (c).y, .slice B c.rows.length dd] := by
    have h := Box.new ((w).alloc (.cells [.int .i64 (c).step, .int .i64 (c).x, .int .i64 (c).y, .slice A c.rows.length cc].toArray 34)) [.int .i64 (c).step, .int .i64 (c).x, .int .i64 (c).y, .slice B c.rows.length dd] 34
    rw [show ((w).alloc (.cells [.int .i64 (c).step, .int .i64 (c).x, .int .i64 (c).y, .slice A c.rows.length cc].toArray 34)).heap.size = (w).heap.size + 1 by simp] at h
    rw [hw4]; exact h
  have hg4 : (w).grownBy w4 none := by rw [hw4]; exact (by repeat (first | exact World.grownBy.refl _ _ | assumption | refine gr_alloc ?_ _ | (apply gr_tail; assumption) | refine gr_drewN ?_ _ | refine gr_drew ?_))
  rw [← hw4]
  clear hw4
  obtain ⟨xb4, hxb4⟩ : ∃ x, x = (w).heap.size + 1 := ⟨_, rfl⟩
  rw [← hxb4] at hbb4 ⊢
  obtain ⟨xa4, hxa4⟩ : ∃ x, x = (w).heap.size := ⟨_, rfl⟩
  rw [← hxa4] at hba4 ⊢
  have hxn4 : xa4 ≠ xb4 := by omega
  replace hxa4 : (w).heap.size ≤ xa4 := by omega
  replace hxb4 : (w).heap.size ≤ xb4 := by omega
  obtain ⟨⟨a0, -⟩, ⟨a1, -⟩, ⟨a2, -⟩, ⟨a3, -⟩⟩ := box4_c hba4
  obtain ⟨⟨b0, -⟩, ⟨b1, -⟩, ⟨b2, -⟩, ⟨b3, -⟩⟩ := box4_c hbb4
  have hE := hide (equalStrs_any A B cc dd c.rows c.rows w4 (ha.pure hg4) (hb.pure hg4))
  go_wp2_with fail
  refine hE.out.mono ?_
  rintro e w5 ⟨rfl, hg5⟩
  have hq : eqT c.rows c.rows = true := by simp [eqT]
  rw [hq]
  clear hE
  go_wp2_with fail
  go_ret
  exact ⟨rfl, hg4.t hg5⟩

end Go.Proofs.YtgcpegjggakemaaGreatDoor
