/- Contracts of functions that this seat's laws reach, each: what one call returns and what it leaves in memory; no condition beyond each theorem's own hypotheses. -/
import Derived.Test.YtgcpegjggakemaaGreatDoorZqCelG
import Derived.Test.YtgcpegjggakemaaGreatDoorZqCelH
import Derived.Deep.DeepCutAuto
set_option linter.unusedVariables false
set_option linter.unusedSimpArgs false
namespace Go.Bl
open Go

theorem mul_bdC {a b A B : Int} (h1 : -A ≤ a) (h2 : a ≤ A) (hA : 0 ≤ A) (h3 : 0 ≤ b) (h4 : b ≤ B) : -(A * B) ≤ a * b ∧ a * b ≤ A * B := by
  have e1 : A * b ≤ A * B := Int.mul_le_mul_of_nonneg_left h4 hA
  have e2 : a * b ≤ A * b := Int.mul_le_mul_of_nonneg_right h2 h3
  have e3 : -A * b ≤ a * b := Int.mul_le_mul_of_nonneg_right h1 h3
  rw [Int.neg_mul] at e3
  omega
/-- the row of a set, as far as it is written -/
def rowL (S : Int → Int → Bool) (x0 y : Int) (n : Nat) : List UInt8 := (List.range n).map fun (i : Nat) => if S (x0 + i) y then (35 : UInt8) else 46

theorem rowL_succ (S : Int → Int → Bool) (x0 y : Int) (n : Nat) : rowL S x0 y (n + 1) = rowL S x0 y n ++ [if S (x0 + n) y then 35 else 46] := by simp [rowL, List.range_succ]

theorem rowL_len (S : Int → Int → Bool) (x0 y : Int) (n : Nat) : (rowL S x0 y n).length = n := by simp [rowL]

theorem rowL_mk (S : Int → Int → Bool) (x0 y : Int) (n : Nat) : mkB (rowL S x0 y n) = rowB S x0 y n := rfl

theorem rowsB_succ (S : Int → Int → Bool) (x0 y0 : Int) (n m : Nat) : rowsB S x0 y0 n (m + 1) = rowsB S x0 y0 n m ++ [rowB S x0 (y0 + m) n] := by simp [rowsB, List.range_succ]

end Go.Bl
namespace Go.Proofs.YtgcpegjggakemaaGreatDoor
open Go Go.RowKit Go.Bl

theorem gr_bldC {w w1 w2 : World} {B : Nat} (h : w.grownBy w1 none) (k : Below B w1 w2) (hB : B = w.heap.size) : w.grownBy w2 none := by
  subst hB
  exact gr_below ((below_gr h).trans k)

theorem info_strC : (Tryz.prog.info? 9).map (fun i => (i.zero, i.size, i.bytes)) = some (some (.string ByteArray.empty), 1, 16) := by kernel_rfl
/-- the four cells of a value of cells -/
def celV (st x y : Int) (s : Value) : List Value := [.int .i64 st, .int .i64 x, .int .i64 y, s]
/-- what a function leaves that returns cells and an error -/
def CelsOut (w0 w : World) (step : Int) (S : Int → Int → Bool) (e : Ending) : Prop :=
  ∃ (c : Cel) (er : Int) (A : Option Addr) (cc : Nat), e = .returned (.tuple #[.agg #[.int .i64 c.step, .int .i64 c.x, .int .i64 c.y, .slice A c.rows.length cc], .int .i64 er]) ∧ IsCells step S c er ∧ Own w w0.heap.size 9 A cc c.rows ∧ w0.grownBy w none

theorem box4_c {w : World} {g : Nat} {t : TypeId} {a b c d : Value} (h : Box w g t [a, b, c, d]) : Cell w g 0 a ∧ Cell w g 1 b ∧ Cell w g 2 c ∧ Cell w g 3 d := ⟨h.c 0 rfl, h.c 1 rfl, h.c 2 rfl, h.c 3 rfl⟩

theorem set4_gr {w : World} {g : Nat} (u v x y : Value) : w.grownBy ((((w.setCell ⟨g, 0, none⟩ u).setCell ⟨g, 1, none⟩ v).setCell ⟨g, 2, none⟩ x).setCell ⟨g, 3, none⟩ y) (some g) := gr_set (gr_set (gr_set (gr_set (World.grownBy.refl w (some g)) (.inl rfl) _) (.inl rfl) _) (.inl rfl) _) (.inl rfl) _

theorem box_set4 {w : World} {g : Nat} {t : TypeId} {a b c d : Value} (h : Box w g t [a, b, c, d]) (u v x y : Value) : Box ((((w.setCell ⟨g, 0, none⟩ u).setCell ⟨g, 1, none⟩ v).setCell ⟨g, 2, none⟩ x).setCell ⟨g, 3, none⟩ y) g t [u, v, x, y] :=
  (((h.set_ 0 u (by simp)).set_ 1 v (by simp)).set_ 2 x (by simp)).set_ 3 y (by simp)

set_option maxHeartbeats 4000000 in
set_option maxRecDepth 100000 in
theorem gridCells_any (g b : Nat) (G : Grd) (w : World) (hG : GridAt w g b G) :
    Calls Tryz.prog 70 #[.pointer (some ⟨g, 0, none⟩)] w fun e w' => CelsOut w w' G.step G.at e := by
  have hok := hG.ok
  obtain ⟨st, hst⟩ : ∃ x, x = G.step := ⟨_, rfl⟩
  have hs := hok.s
  rw [← hst] at hs ⊢
  have hcs : Hid (∀ wx, w.grownBy wx none → GridAt wx g b G ∧ wx.cell? ⟨g, 0, none⟩ = some (.int .i64 st)) := fun wx h => by
    have := hG.pure h
    exact ⟨this, by rw [hst]; exact this.cells.1⟩
  have hin : Hid (∀ x y, G.at x y = true → -10000000 ≤ x ∧ x ≤ 10001000 ∧ -10000000 ≤ y ∧ y ≤ 10001000) := fun x y h => by
    have := Grd.at_in h
    unfold Grd.In at this
    have := hok.x; have := hok.y; have := hok.w; have := hok.h
    omega
  clear hst hG hok
  go_enter Tryz.func70, Tryz.ntmps70
  go_upto_region 1 with fail
  obtain ⟨w2, hw2⟩ : ∃ x, x = (w).alloc (.cells [.int .i64 0, .int .i64 0, .int .i64 0, .slice none 0 0].toArray 34) := ⟨_, rfl⟩
  have hg2 : (w).grownBy w2 none := by rw [hw2]; exact gr_alloc (World.grownBy.refl _ _) _
  have hb2 : Box w2 (w).heap.size 34 [.int .i64 0, .int .i64 0, .int .i64 0, .slice none 0 0] := by rw [hw2]; exact Box.new _ _ _
  have hxs2 := hb2.lt
  rw [← hw2]
  clear hw2
  obtain ⟨x2, hx2⟩ : ∃ x, x = (w).heap.size := ⟨_, rfl⟩
  rw [← hx2] at hb2 hxs2 ⊢
  have hxl2 : (w).heap.size ≤ x2 := by omega
  clear hx2
  have h0 := (hcs.out w2 hg2).2
  go_upto_region 2 with fail
  obtain ⟨w4, hw4⟩ : ∃ x, x = (w2).alloc (.cells [.int .i64 st, .int .i64 0, .int .i64 0, .slice none 0 0].toArray 34) := ⟨_, rfl⟩
  have hg4 : (w2).grownBy w4 none := by rw [hw4]; exact gr_alloc (World.grownBy.refl _ _) _
  have hb4 : Box w4 (w2).heap.size 34 [.int .i64 st, .int .i64 0, .int .i64 0, .slice none 0 0] := by rw [hw4]; exact Box.new _ _ _
  have hxs4 := hb4.lt
  rw [← hw4]
  clear hw4
  obtain ⟨x4, hx4⟩ : ∃ x, x = (w2).heap.size := ⟨_, rfl⟩
  rw [← hx4] at hb4 hxs4 ⊢
  have hxl4 : (w2).heap.size ≤ x4 := by omega
  clear hx4
  have hgw4 := hg2.t hg4
  replace hb2 := hb2.pure hg4
  have hx24 : x2 ≠ x4 := by omega
  have hbx := box_any g b G w4 (hcs.out w4 hgw4).1
  clear h0
  go_wp2_with fail
  refine hbx.mono ?_
  rintro e w5 ⟨s, X0, Y0, X1, Y1, rfl, hbst, hg5⟩
  replace hb2 := hb2.pure hg5
  replace hb4 := hb4.pure hg5
  have hgw5 := hgw4.t hg5
  replace hbst := hide hbst
  clear hbx hg5 hgw4 hg4
  obtain ⟨w7, hw7⟩ : ∃ x, x = (w5.alloc (.cells #[.int .i64 X0, .int .i64 Y0] 30)).alloc (.cells #[.int .i64 X1, .int .i64 Y1] 30) := ⟨_, rfl⟩
  have hb5 : Box w7 w5.heap.size 30 [.int .i64 X0, .int .i64 Y0] := by
    rw [hw7]; exact (Box.new w5 [.int .i64 X0, .int .i64 Y0] 30).pure (gr_alloc (World.grownBy.refl _ _) _)
  have hb6 : Box w7 (w5.heap.size + 1) 30 [.int .i64 X1, .int .i64 Y1] := by
    have h := Box.new (w5.alloc (.cells #[.int .i64 X0, .int .i64 Y0] 30)) [.int .i64 X1, .int .i64 Y1] 30
    rw [show (w5.alloc (.cells #[.int .i64 X0, .int .i64 Y0] 30)).heap.size = w5.heap.size + 1 by simp] at h
    rw [hw7]; exact h
  have hg7 : w5.grownBy w7 none := by rw [hw7]; exact (by repeat (first | exact World.grownBy.refl _ _ | assumption | refine gr_alloc ?_ _ | (apply gr_tail; assumption) | refine gr_drewN ?_ _ | refine gr_drew ?_))
  go_upto_region 3 with fail
  rw [← hw7]
  have hx5l : w.heap.size ≤ w5.heap.size := hgw5.size
  have hx6l : w.heap.size ≤ w5.heap.size + 1 := by omega
  have hx52 : x2 ≠ w5.heap.size ∧ x2 ≠ w5.heap.size + 1 ∧ x4 ≠ w5.heap.size ∧ x4 ≠ w5.heap.size + 1 := by
    have := hb2.lt
    have := hb4.lt
    omega
  replace hb2 := hb2.pure hg7
  replace hb4 := hb4.pure hg7
  replace hgw5 := hgw5.t hg7
  clear hg7 hw7
  obtain ⟨x6, hx6⟩ : ∃ x, x = w5.heap.size + 1 := ⟨_, rfl⟩
  rw [← hx6] at hb6 hx6l hx52 ⊢
  clear hx6
  generalize w5.heap.size = x5 at *
  clear w5
  cases s
  · have hno : ∀ x y, G.at x y = false := by
      rcases hbst.out with ⟨-, h⟩ | ⟨h, -⟩
      · exact h
      · cases h
    have hC : Hid (IsCells st G.at ⟨st, 0, 0, []⟩ 0) := .inl ⟨hno, rfl, rfl⟩
    clear hbst hno
    obtain ⟨⟨k0, -⟩, ⟨k1, -⟩, ⟨k2, -⟩, ⟨k3, -⟩⟩ := box4_c hb4
    obtain ⟨⟨d0, f0⟩, ⟨d1, f1⟩, ⟨d2, f2⟩, ⟨d3, f3⟩⟩ := box4_c hb2
    go_wp2_with fail
    clear d0 d1 d2 d3 f0 f1 f2 f3 k0 k1 k2 k3
    have hgz := gr_new hgw5 (set4_gr (w := w7) (g := x2) (.int .i64 st) (.int .i64 0) (.int .i64 0) (.slice none 0 0)) hxl2
    have hbz := box_set4 hb2 (.int .i64 st) (.int .i64 0) (.int .i64 0) (.slice none 0 0)
    generalize (((w7.setCell ⟨x2, 0, none⟩ (.int .i64 st)).setCell ⟨x2, 1, none⟩ (.int .i64 0)).setCell ⟨x2, 2, none⟩ (.int .i64 0)).setCell ⟨x2, 3, none⟩ (.slice none 0 0) = wz at *
    obtain ⟨⟨d0, f0⟩, ⟨d1, f1⟩, ⟨d2, f2⟩, ⟨d3, f3⟩⟩ := box4_c hbz
    exact bodyPost_ret (v := .tuple #[.agg #[.int .i64 st, .int .i64 0, .int .i64 0, .slice none 0 0], .int .i64 0]) (by simp [results, Tryz.results70, go_sem, d0, d1, d2, d3, f0, f1, f2, f3]) rfl ⟨⟨st, 0, 0, []⟩, 0, none, 0, rfl, hC.out, Own.nil _ _ _, hgz⟩
  have hBx : Box4 G.at X0 Y0 X1 Y1 := by
    rcases hbst.out with ⟨h, -⟩ | ⟨-, h⟩
    · cases h
    · exact h
  clear hbst
  have hle := hBx.le
  have hbd : -10000000 ≤ X0 ∧ X0 ≤ 10001000 ∧ -10000000 ≤ Y0 ∧ Y0 ≤ 10001000 ∧ -10000000 ≤ X1 ∧ X1 ≤ 10001000 ∧ -10000000 ≤ Y1 ∧ Y1 ≤ 10001000 := by
    obtain ⟨y1, a1⟩ := hBx.l; obtain ⟨y2, a2⟩ := hBx.r; obtain ⟨y3, a3⟩ := hBx.b; obtain ⟨y4, a4⟩ := hBx.t
    have := hin.out _ _ a1; have := hin.out _ _ a2; have := hin.out _ _ a3; have := hin.out _ _ a4
    omega
  replace hBx := hide hBx
  obtain ⟨p0, -⟩ := hb5.c 0 rfl
  obtain ⟨p1, -⟩ := hb5.c 1 rfl
  obtain ⟨p2, -⟩ := hb6.c 0 rfl
  obtain ⟨p3, -⟩ := hb6.c 1 rfl
  rcases q1 : decide (X1 - X0 > 199) with _ | _
  rotate_left
  · have hC : Hid (IsCells st G.at ⟨0, 0, 0, []⟩ 12) := .inr ⟨X0, Y0, X1, Y1, hBx.out, .inl ⟨.inl (by simpa using q1), rfl, rfl⟩⟩
    obtain ⟨⟨d0, f0⟩, ⟨d1, f1⟩, ⟨d2, f2⟩, ⟨d3, f3⟩⟩ := box4_c hb2
    go_wp2_with fail
    clear d0 d1 d2 d3 f0 f1 f2 f3 p0 p1 p2 p3
    have hgz := gr_new hgw5 (set4_gr (w := w7) (g := x2) (.int .i64 0) (.int .i64 0) (.int .i64 0) (.slice none 0 0)) hxl2
    have hbz := box_set4 hb2 (.int .i64 0) (.int .i64 0) (.int .i64 0) (.slice none 0 0)
    generalize (((w7.setCell ⟨x2, 0, none⟩ (.int .i64 0)).setCell ⟨x2, 1, none⟩ (.int .i64 0)).setCell ⟨x2, 2, none⟩ (.int .i64 0)).setCell ⟨x2, 3, none⟩ (.slice none 0 0) = wz at *
    obtain ⟨⟨d0, f0⟩, ⟨d1, f1⟩, ⟨d2, f2⟩, ⟨d3, f3⟩⟩ := box4_c hbz
    exact bodyPost_ret (v := .tuple #[.agg #[.int .i64 0, .int .i64 0, .int .i64 0, .slice none 0 0], .int .i64 12]) (by simp [results, Tryz.results70, go_sem, d0, d1, d2, d3, f0, f1, f2, f3]) rfl ⟨⟨0, 0, 0, []⟩, 12, none, 0, rfl, hC.out, Own.nil _ _ _, hgz⟩
  rcases q2 : decide (Y1 - Y0 > 199) with _ | _
  rotate_left
  · have hC : Hid (IsCells st G.at ⟨0, 0, 0, []⟩ 12) := .inr ⟨X0, Y0, X1, Y1, hBx.out, .inl ⟨.inr (by simpa using q2), rfl, rfl⟩⟩
    obtain ⟨⟨d0, f0⟩, ⟨d1, f1⟩, ⟨d2, f2⟩, ⟨d3, f3⟩⟩ := box4_c hb2
    go_wp2_with fail
    clear d0 d1 d2 d3 f0 f1 f2 f3 p0 p1 p2 p3
    have hgz := gr_new hgw5 (set4_gr (w := w7) (g := x2) (.int .i64 0) (.int .i64 0) (.int .i64 0) (.slice none 0 0)) hxl2
    have hbz := box_set4 hb2 (.int .i64 0) (.int .i64 0) (.int .i64 0) (.slice none 0 0)
    generalize (((w7.setCell ⟨x2, 0, none⟩ (.int .i64 0)).setCell ⟨x2, 1, none⟩ (.int .i64 0)).setCell ⟨x2, 2, none⟩ (.int .i64 0)).setCell ⟨x2, 3, none⟩ (.slice none 0 0) = wz at *
    obtain ⟨⟨d0, f0⟩, ⟨d1, f1⟩, ⟨d2, f2⟩, ⟨d3, f3⟩⟩ := box4_c hbz
    exact bodyPost_ret (v := .tuple #[.agg #[.int .i64 0, .int .i64 0, .int .i64 0, .slice none 0 0], .int .i64 12]) (by simp [results, Tryz.results70, go_sem, d0, d1, d2, d3, f0, f1, f2, f3]) rfl ⟨⟨0, 0, 0, []⟩, 12, none, 0, rfl, hC.out, Own.nil _ _ _, hgz⟩
  have hnar : ¬ (199 < X1 - X0 ∨ 199 < Y1 - Y0) := by simp at q1 q2; omega
  obtain ⟨WD, hWD⟩ : ∃ n : Nat, n = (X1 - X0 + 1).toNat := ⟨_, rfl⟩
  obtain ⟨HD, hHD⟩ : ∃ n : Nat, n = (Y1 - Y0 + 1).toNat := ⟨_, rfl⟩
  have hWI : (WD : Int) = X1 - X0 + 1 := by omega
  have hHI : (HD : Int) = Y1 - Y0 + 1 := by omega
  have hWb : WD ≤ 200 := by omega
  have hHb : HD ≤ 200 := by omega
  have hpx := mul_bdC (a := X0) (b := st) (A := 100000000) (B := 10000) (by omega) (by omega) (by omega) (by omega) (by omega)
  have hpy := mul_bdC (a := Y0) (b := st) (A := 100000000) (B := 10000) (by omega) (by omega) (by omega) (by omega) (by omega)
  obtain ⟨PX, hPX⟩ : ∃ x, X0 * st = x := ⟨_, rfl⟩
  obtain ⟨PY, hPY⟩ : ∃ x, Y0 * st = x := ⟨_, rfl⟩
  rw [hPX] at hpx
  rw [hPY] at hpy
  have hmk : Hid (mkC st G.at X0 Y0 X1 Y1 = ⟨st, PX, PY, rowsB G.at X0 Y0 WD HD⟩) := by rw [Hid, mkC, hPX, hPY, hWD, hHD]
  replace hWD := hide hWD
  replace hHD := hide hHD
  go_upto_region 7 with fail
  clear p2 p3
  have hg0 := (hcs.out w7 hgw5).2
  have hg4 : x4 ≠ g := by
    intro e
    have := cell_lt (hcs.out w (World.grownBy.refl _ _)).2
    simp only at this
    have := hg2.size
    omega
  refine wp_region_tree (fun wx => w7.grownBy wx (some x4)) [2, 1, 2, 2, 2, 1, 2, 2, 1, 2, 2, 2, 1, 2, 2, 0, 2, 0] (.bl 0 (.bl 1 (.bl 2 (.bl 3 (.bl 4 (.bl 5 (.bl 6 (.bl 7 (.bl 8 (.bl 9 (.bl 10 (.bl 11 (.bl 12 (.bl 13 (.bl 14 (.ef 15 (.bl 16 (.ef 17 .done)))))))))))))))))) (by kernel_rfl) (by kernel_rfl) (gr_any (gr_drew (World.grownBy.refl _ _))) ?_
  obtain ⟨w8, hw8⟩ : ∃ x, x = (w7).drew := ⟨_, rfl⟩
  rw [← hw8]
  have hgw8 : (w7).grownBy w8 none := by rw [hw8]; exact gr_drew (World.grownBy.refl _ _)
  clear hw8
  refine tree_p rfl rfl rfl rfl _ rfl (by simp) (fun K hK => ?_)
  apply Exists.intro
  refine ⟨fun wq K' hK' => ?_, ?_⟩
  · go_wp2_with fail
    exact hK'
  go_simp
  refine hK _ ?_
  clear hK K
  refine tree_b rfl rfl rfl rfl _ rfl (by simp) (fun K hK => ?_)
  apply Exists.intro
  refine ⟨fun wq hq K' hK' => ?_, ?_⟩
  · have r0 := gr_cell hq p0 (by intro e; injection e with e; exact hx52.2.2.1 e)
    have r1 := gr_cell hq p1 (by intro e; injection e with e; exact hx52.2.2.1 e)
    have r2 := gr_cell hq hg0 (by intro e; injection e with e; exact hg4 e)
    go_wp2_with fail
    exact hK'
  go_simp
  refine hK _ ?_
  clear hK K
  refine tree_p rfl rfl rfl rfl _ rfl (by simp) (fun K hK => ?_)
  apply Exists.intro
  refine ⟨fun wq K' hK' => ?_, ?_⟩
  · go_wp2_with fail
    exact hK'
  go_simp
  refine hK _ ?_
  clear hK K
  refine tree_n rfl rfl _ rfl _ rfl ?_
  try go_simp
  refine tree_p rfl rfl rfl rfl _ rfl (by simp) (fun K hK => ?_)
  apply Exists.intro
  refine ⟨fun wq K' hK' => ?_, ?_⟩
  · go_wp2_with fail
    exact hK'
  go_simp
  refine hK _ ?_
  clear hK K
  refine tree_b rfl rfl rfl rfl _ rfl (by simp) (fun K hK => ?_)
  apply Exists.intro
  refine ⟨fun wq hq K' hK' => ?_, ?_⟩
  · have r0 := gr_cell hq p0 (by intro e; injection e with e; exact hx52.2.2.1 e)
    have r1 := gr_cell hq p1 (by intro e; injection e with e; exact hx52.2.2.1 e)
    have r2 := gr_cell hq hg0 (by intro e; injection e with e; exact hg4 e)
    go_wp2_with fail
    exact hK'
  go_simp
  refine hK _ ?_
  clear hK K
  refine tree_p rfl rfl rfl rfl _ rfl (by simp) (fun K hK => ?_)
  apply Exists.intro
  refine ⟨fun wq K' hK' => ?_, ?_⟩
  · go_wp2_with fail
    exact hK'
  go_simp
  refine hK _ ?_
  clear hK K
  refine tree_p rfl rfl rfl rfl _ rfl (by simp) (fun K hK => ?_)
  apply Exists.intro
  refine ⟨fun wq K' hK' => ?_, ?_⟩
  · go_wp2_with fail
    exact hK'
  go_simp
  refine hK _ ?_
  clear hK K
  refine tree_b rfl rfl rfl rfl _ rfl (by simp) (fun K hK => ?_)
  apply Exists.intro
  refine ⟨fun wq hq K' hK' => ?_, ?_⟩
  · have r0 := gr_cell hq p0 (by intro e; injection e with e; exact hx52.2.2.1 e)
    have r1 := gr_cell hq p1 (by intro e; injection e with e; exact hx52.2.2.1 e)
    have r2 := gr_cell hq hg0 (by intro e; injection e with e; exact hg4 e)
    go_wp2_with fail
    exact hK'
  go_simp
  refine hK _ ?_
  clear hK K
  refine tree_p rfl rfl rfl rfl _ rfl (by simp) (fun K hK => ?_)
  apply Exists.intro
  refine ⟨fun wq K' hK' => ?_, ?_⟩
  · go_wp2_with fail
    exact hK'
  go_simp
  refine hK _ ?_
  clear hK K
  refine tree_n rfl rfl _ rfl _ rfl ?_
  try go_simp
  refine tree_p rfl rfl rfl rfl _ rfl (by simp) (fun K hK => ?_)
  apply Exists.intro
  refine ⟨fun wq K' hK' => ?_, ?_⟩
  · go_wp2_with fail
    exact hK'
  go_simp
  refine hK _ ?_
  clear hK K
  refine tree_b rfl rfl rfl rfl _ rfl (by simp) (fun K hK => ?_)
  apply Exists.intro
  refine ⟨fun wq hq K' hK' => ?_, ?_⟩
  · have r0 := gr_cell hq p0 (by intro e; injection e with e; exact hx52.2.2.1 e)
    have r1 := gr_cell hq p1 (by intro e; injection e with e; exact hx52.2.2.1 e)
    have r2 := gr_cell hq hg0 (by intro e; injection e with e; exact hg4 e)
    go_wp2_with fail
    exact hK'
  go_simp
  refine hK _ ?_
  clear hK K
  refine tree_p rfl rfl rfl rfl _ rfl (by simp) (fun K hK => ?_)
  apply Exists.intro
  refine ⟨fun wq K' hK' => ?_, ?_⟩
  · go_wp2_with fail
    exact hK'
  go_simp
  refine hK _ ?_
  clear hK K
  refine tree_p rfl rfl rfl rfl _ rfl (by simp) (fun K hK => ?_)
  apply Exists.intro
  refine ⟨fun wq K' hK' => ?_, ?_⟩
  · go_wp2_with fail
    exact hK'
  go_simp
  refine hK _ ?_
  clear hK K
  refine tree_e rfl rfl (fun K hK => ?_)
  have hb48 := hb4.pure hgw8
  obtain ⟨d1, f1⟩ := hb48.c 1 rfl
  go_wp2_with fail
  try go_simp
  refine hK _ _ (gr_set (gr_any hgw8) (.inl rfl) _) ?_
  clear hK K
  have hb49 : Box (w8.setCell ⟨x4, 1, none⟩ (.int .i64 PX)) x4 34 [.int .i64 st, .int .i64 PX, .int .i64 0, .slice none 0 0] := hb48.set_ 1 _ (by simp)
  have hg49 : w7.grownBy (w8.setCell ⟨x4, 1, none⟩ (.int .i64 PX)) (some x4) := gr_set (gr_any hgw8) (.inl rfl) _
  generalize w8.setCell ⟨x4, 1, none⟩ (.int .i64 PX) = w9 at *
  clear d1 f1 hb48
  refine tree_p rfl rfl rfl rfl _ rfl (by simp) (fun K hK => ?_)
  apply Exists.intro
  refine ⟨fun wq K' hK' => ?_, ?_⟩
  · go_wp2_with fail
    exact hK'
  go_simp
  refine hK _ ?_
  clear hK K
  refine tree_e0 (by kernel_rfl) rfl rfl (fun K hK => ?_)
  obtain ⟨d2, f2⟩ := hb49.c 2 rfl
  go_wp2_with fail
  try go_simp
  refine hK _ _ trivial ?_
  clear hK K
  refine tree_done ?_
  have hb4z : Box (w9.setCell ⟨x4, 2, none⟩ (.int .i64 PY)) x4 34 [.int .i64 st, .int .i64 PX, .int .i64 PY, .slice none 0 0] := hb49.set_ 2 _ (by simp)
  have hg4z : w7.grownBy (w9.setCell ⟨x4, 2, none⟩ (.int .i64 PY)) (some x4) := gr_set hg49 (.inl rfl) _
  generalize w9.setCell ⟨x4, 2, none⟩ (.int .i64 PY) = wz at *
  clear d2 f2 hb49 hg49 hgw8 hb4 hg0
  replace hb2 := hb2.gr hg4z (by intro e; injection e with e; exact hx24 e.symm)
  replace hb5 := hb5.gr hg4z (by intro e; injection e with e; exact hx52.2.2.1 e)
  replace hb6 := hb6.gr hg4z (by intro e; injection e with e; exact hx52.2.2.2 e)
  have hgz := gr_new hgw5 hg4z (by omega)
  have hlz := hb4z.lt
  have hxxb : x2 < wz.heap.size := hb2.lt
  clear hg4z hgw5 p0 p1 w7
  have hfx : Hid (∀ wx, wz.grownBy wx (some x4) → Box wx x2 34 [.int .i64 0, .int .i64 0, .int .i64 0, .slice none 0 0] ∧ Box wx x5 30 [.int .i64 X0, .int .i64 Y0] ∧ Box wx x6 30 [.int .i64 X1, .int .i64 Y1] ∧ w.grownBy wx none) := fun wx h =>
    ⟨hb2.gr h (by intro e; injection e with e; exact hx24 e.symm), hb5.gr h (by intro e; injection e with e; exact hx52.2.2.1 e), hb6.gr h (by intro e; injection e with e; exact hx52.2.2.2 e), gr_new hgz h (by omega)⟩
  obtain ⟨r1, -⟩ := hb5.c 1 rfl
  obtain ⟨lo, hlo⟩ : ∃ n, n = wz.heap.size := ⟨_, rfl⟩
  have hx4lo : x4 < lo := by omega
  have hI0 : Own wz lo 9 none 0 (rowsB G.at X0 Y0 WD 0) := Own.nil _ _ _
  have hself := World.grownBy.refl wz (some x4)
  replace hWI := hide hWI
  replace hHI := hide hHI
  replace hlo := hide hlo
  clear q1 q2 hPX hPY hb2 hb5 hb6 hgz hnar
  go_wp2_with fail
  go_loopw [8] (fun i wr => ∃ (m : Nat) (A : Option Addr) (cc : Nat), m ≤ HD ∧ i = .int .i64 (Y0 + (m : Int)) ∧ Box wr x4 34 [.int .i64 st, .int .i64 PX, .int .i64 PY, .slice A m cc] ∧ Own wr lo 9 A cc (rowsB G.at X0 Y0 WD m) ∧ wz.grownBy wr (some x4)) (fun i _ => HD - (intOf i - Y0).toNat)
  case atStart => exact ⟨0, none, 0, Nat.zero_le _, by simp, hb4z, hI0, hself⟩
  case round =>
    clear hb4z hI0 hself r1
    obtain ⟨m, A, cc, hm, rfl, hb4, hO, hgr⟩ := hrel
    obtain ⟨hb2, hb5, hb6, hgw⟩ := hfx.out wr hgr
    obtain ⟨r0, -⟩ := hb5.c 0 rfl
    obtain ⟨r2, -⟩ := hb6.c 0 rfl
    obtain ⟨r3, -⟩ := hb6.c 1 rfl
    have hWW := hWI.out
    have hHH := hHI.out
    by_cases hlt : m < HD
    · have hle1 : decide (Y0 + (m : Int) ≤ Y1) = true := by simp; omega
      have hyb : -10000000 ≤ Y0 + (m : Int) ∧ Y0 + (m : Int) ≤ 10001000 := by omega
      replace hWW := hide hWW
      replace hHH := hide hHH
      go_upto_region 12 with fail
      obtain ⟨w9, hw9⟩ : ∃ x, x = (wr).alloc (.cells #[.pointer none, .slice none 0 0] 186) := ⟨_, rfl⟩
      have hB9 : Bld w9 (wr).heap.size (wr).heap.size [] := by rw [hw9]; exact Bld.new _ _ (Nat.le_refl _)
      have hgb9 : (wr).grownBy w9 none := by rw [hw9]; exact gr_alloc (World.grownBy.refl _ _) _
      rw [← hw9]
      clear hw9
      obtain ⟨x9, hx9⟩ : ∃ x, x = (wr).heap.size := ⟨_, rfl⟩
      rw [← hx9] at hB9 ⊢
      have hxg9 : x9 ≤ (wr).heap.size := Nat.le_of_eq hx9
      replace hx9 := hide hx9
      have hBl : Bld w9 x9 x9 (rowL G.at X0 (Y0 + (m : Int)) 0) := hB9
      have r0' := hgb9.k r0
      have hrk : Hid (∀ wx, wr.grownBy wx none → wx.cell? ⟨x6, 0, none⟩ = some (.int .i64 X1) ∧ GridAt wx g b G ∧ w.grownBy wx none) := fun wx h => ⟨h.k r2, (hcs.out wx (hgw.t h)).1, hgw.t h⟩
      clear r2 r3 r0 hB9 hb2 hb5 hb6
      obtain ⟨wa, rfl⟩ : ∃ x, x = wr := ⟨_, rfl⟩
      go_wp2_with fail
      go_loopw [10] (fun i wx => ∃ n : Nat, n ≤ WD ∧ i = .int .i64 (X0 + (n : Int)) ∧ Bld wx x9 x9 (rowL G.at X0 (Y0 + (m : Int)) n) ∧ wa.grownBy wx none) (fun i _ => WD - (intOf i - X0).toNat)
      case atStart => exact ⟨0, Nat.zero_le _, by simp, hBl, hgb9⟩
      case round =>
        clear hBl r0'
        obtain ⟨n, hn, rfl, hB, hgx⟩ := hrel
        obtain ⟨s2, hGx, hgwx⟩ := hrk.out wr hgx
        have hWW' := hWW.out
        by_cases hnl : n < WD
        · have hle2 : decide (X0 + (n : Int) ≤ X1) = true := by simp; omega
          have hxb : -10000000 ≤ X0 + (n : Int) ∧ X0 + (n : Int) ≤ 10001000 := by omega
          have hAt := hide (at_any g b G (X0 + (n : Int)) (Y0 + (m : Int)) wr hGx (by omega) (by omega))
          have hsuc := rowL_succ G.at X0 (Y0 + (m : Int)) n
          have hln := rowL_len G.at X0 (Y0 + (m : Int)) n
          replace hWW' := hide hWW'
          replace hsuc := hide hsuc
          replace hln := hide hln
          go_wp2_with fail
          refine hAt.out.mono ?_
          rintro e w10 ⟨rfl, hg10⟩
          have hB10 := hB.gr hg10
          have hg10' := hgx.t hg10
          have hsz10 := hg10'.size
          rcases hv : G.at (X0 + (n : Int)) (Y0 + (m : Int)) with _ | _
          · rw [Hid, hv, if_neg (by simp)] at hsuc
            replace hsuc := hide hsuc
            have hWr := writeByte_any x9 x9 _ 46 w10 hB10 (by rw [hln.out]; omega) (by omega)
            simp only [show (((46 : UInt8).toNat : Nat) : Int) = 46 from rfl] at hWr
            replace hWr := hide hWr
            clear hAt hv
            go_wp2_with fail
            refine hWr.out.mono ?_
            rintro e w11 ⟨rfl, hB11, hb11, -⟩
            rw [← hsuc.out] at hB11
            have hg11 := gr_bldC hg10' hb11 hx9.out
            go_wp2_with fail
            (go_roundw; (case rel => exact ⟨n + 1, by omega, congrArg (Value.int .i64) (by omega), hB11, hg11⟩); (case measure => simp [intOf]; omega))
          · rw [Hid, hv, if_pos rfl] at hsuc
            replace hsuc := hide hsuc
            have hWr := writeByte_any x9 x9 _ 35 w10 hB10 (by rw [hln.out]; omega) (by omega)
            simp only [show (((35 : UInt8).toNat : Nat) : Int) = 35 from rfl] at hWr
            replace hWr := hide hWr
            clear hAt hv
            go_wp2_with fail
            refine hWr.out.mono ?_
            rintro e w11 ⟨rfl, hB11, hb11, -⟩
            rw [← hsuc.out] at hB11
            have hg11 := gr_bldC hg10' hb11 hx9.out
            go_wp2_with fail
            (go_roundw; (case rel => exact ⟨n + 1, by omega, congrArg (Value.int .i64) (by omega), hB11, hg11⟩); (case measure => simp [intOf]; omega))
        · obtain rfl : n = WD := by omega
          have hle2 : decide (X0 + (n : Int) ≤ X1) = false := by simp; omega
          replace hWW' := hide hWW'
          have hSt := fun W (h : wr.grownBy W none) => bldString_any x9 x9 _ W (hB.gr h) (by have := hgx.size; have := h.size; omega)
          rw [rowL_mk] at hSt
          have hrs := rowsB_succ G.at X0 Y0 n m
          have hrl := rowsB_len (S := G.at) (x0 := X0) (y0 := Y0) (n := n) (m := m)
          obtain ⟨R, hR⟩ : ∃ R, R = rowB G.at X0 (Y0 + (m : Int)) n := ⟨_, rfl⟩
          rw [← hR] at hrs hSt
          replace hSt := hide hSt
          replace hrs := hide hrs
          replace hrl := hide hrl
          replace hR := hide hR
          have hb4r := hb4.pure hgx
          clear hGx hgwx
          go_upto_region 18 with fail
          clear s2
          obtain ⟨i0, hi0, hzz, hi1, hi2⟩ := info_parts info_strC
          refine wp_region_tree (fun wx => Box wx x4 34 [.int .i64 st, .int .i64 PX, .int .i64 PY, .slice A m cc]) [2, 1, 0, 0, 0, 2, 0] (.bl 0 (.bl 1 (.ef 2 (.ef 3 (.ef 4 (.bl 5 (.ef 6 .done))))))) (by kernel_rfl) (by kernel_rfl) (hb4r.pure (gr_drew (World.grownBy.refl _ _))) ?_
          obtain ⟨w12, hw12⟩ : ∃ x, x = (wr).drew := ⟨_, rfl⟩
          rw [← hw12]
          have hgw12 : (wr).grownBy w12 none := by rw [hw12]; exact gr_drew (World.grownBy.refl _ _)
          clear hw12
          refine tree_p rfl rfl rfl rfl _ rfl (by simp) (fun K hK => ?_)
          apply Exists.intro
          refine ⟨fun wq K' hK' => ?_, ?_⟩
          · go_wp2_with fail
            exact hK'
          go_simp
          refine hK _ ?_
          clear hK K
          refine tree_b rfl rfl rfl rfl _ rfl (by simp) (fun K hK => ?_)
          apply Exists.intro
          refine ⟨fun wq hq K' hK' => ?_, ?_⟩
          · have q3 := (hq.c 3 rfl).1
            go_wp2_with fail
            exact hK'
          go_simp
          refine hK _ ?_
          clear hK K
          refine tree_e rfl rfl (fun K hK => ?_)
          go_wp2_with fail
          refine (hSt.out w12 (gr_trans hgw12 (World.grownBy.refl _ _))).mono ?_
          rintro e w13 ⟨rfl, hb13⟩
          have hg13 : wa.grownBy w13 none := gr_bldC (hgx.t (gr_trans hgw12 (World.grownBy.refl _ _))) hb13 hx9.out
          go_wp2_with fail
          try go_simp
          refine hK _ _ (hb4.pure hg13) ?_
          clear hK K
          refine tree_e rfl rfl (fun K hK => ?_)
          go_wp2_with fail
          try go_simp
          refine hK _ _ ((hb4.pure hg13).pure (gr_alloc (World.grownBy.refl _ _) _)) ?_
          clear hK K
          obtain ⟨w14, hw14⟩ : ∃ x, x = w13.alloc (.cells #[.string R] 9) := ⟨_, rfl⟩
          have hg14 : w13.grownBy w14 none := by rw [hw14]; exact gr_alloc (World.grownBy.refl _ _) _
          have hl14 : Sl w14 0 (some ⟨w13.heap.size, 0, none⟩) [R] := by rw [hw14]; exact sl_oneAt _ 0 [.string R] _ _ _ rfl (Nat.zero_le _) rfl
          rw [← hw14]
          clear hw14
          have hga := hg13.t hg14
          have hb14 := hb4.pure hga
          have hO14 := hO.pure hga
          obtain ⟨p14, hp14⟩ : ∃ x, x = w13.heap.size := ⟨_, rfl⟩
          rw [← hp14] at hl14 ⊢
          clear hp14
          have hlow : lo ≤ w14.heap.size := by rw [hlo.out]; exact (gr_trans hgr (gr_any hga)).size
          refine tree_e0 (by kernel_rfl) rfl rfl (fun K hK => ?_)
          refine wp_pushAt (α := ByteArray) _ (.tmp 80) (.tmp 82) _ rfl lo 9 i0 _ 16 Tryz.underlying32 hi0 hzz hi1 hi2 rfl A m cc (rowsB G.at X0 Y0 n m) rfl hrl.out.symm hO14 0 ⟨p14, 0, none⟩ 1 1 [R] rfl rfl hl14 ?_ ?_ ?_ ?_
          · simp only [List.length_cons, List.length_nil, hrl.out]; omega
          · simp only [List.length_cons, List.length_nil, hrl.out, maxLen]; omega
          · exact hlow
          intro A15 c15 w15 hO15 hG15
          rw [← hrs.out, show (rowsB G.at X0 Y0 n (m + 1)).length = m + 1 from rowsB_len]
          rw [← hrs.out] at hO15
          try go_simp
          refine hK _ _ trivial ?_
          clear hK K
          have hb15 := hb14.gr hG15.1 (hb14.ne_own hO14 (by decide))
          have hgz15 : wz.grownBy w15 (some x4) := gr_row (gr_trans hgr (gr_any hga)) hG15.1 (fun x h2 => by have := (hO14.blk_lt h2).1; rw [hlo.out] at this; exact this)
          refine tree_p rfl rfl rfl rfl _ rfl (by simp) (fun K hK => ?_)
          apply Exists.intro
          refine ⟨fun wq K' hK' => ?_, ?_⟩
          · go_wp2_with fail
            exact hK'
          go_simp
          refine hK _ ?_
          clear hK K
          refine tree_e0 (by kernel_rfl) rfl rfl (fun K hK => ?_)
          obtain ⟨d3, f3⟩ := hb15.c 3 rfl
          go_wp2_with fail
          try go_simp
          refine hK _ _ trivial ?_
          clear hK K
          refine tree_done ?_
          have hb16 : Box (w15.setCell ⟨x4, 3, none⟩ (.slice A15 (m + 1) c15)) x4 34 [.int .i64 st, .int .i64 PX, .int .i64 PY, .slice A15 (m + 1) c15] := hb15.set_ 3 _ (by simp)
          have hO16 := hO15.set_other (g' := x4) (i := 3) (.slice A15 (m + 1) c15) (hb15.ne_own hO15 (by decide))
          have hg16 : wz.grownBy (w15.setCell ⟨x4, 3, none⟩ (.slice A15 (m + 1) c15)) (some x4) := gr_set hgz15 (.inl rfl) _
          generalize w15.setCell ⟨x4, 3, none⟩ (.slice A15 (m + 1) c15) = w16 at *
          clear d3 f3 hb15 hO15 hG15 hb14 hO14 hl14
          replace hWW := hide hWW
          go_wp2_with fail
          (go_roundw; (case rel => exact ⟨m + 1, A15, c15, by omega, congrArg (Value.int .i64) (by omega), hb16, hO16, hg16⟩); (case measure => simp [intOf]; omega))
    · obtain rfl : m = HD := by omega
      have hle1 : decide (Y0 + (m : Int) ≤ Y1) = false := by simp; omega
      replace hWW := hide hWW
      replace hHH := hide hHH
      have hOs := hO.sl.mono (Nat.zero_le lo)
      have hlenm := rowsB_len (S := G.at) (x0 := X0) (y0 := Y0) (n := WD) (m := m)
      have hCk := fun W (hs : Sl W 0 A (rowsB G.at X0 Y0 WD m)) => checkCells_any st PX PY A m cc (rowsB G.at X0 Y0 WD m) W hs hlenm (fun s hs => by
        obtain ⟨j, hj, rfl⟩ := List.mem_iff_getElem.1 hs
        rw [← getD_of hj, rowsB_at (by rw [hlenm] at hj; exact hj), rowB_size]
        omega)
      have hAC : Hid (cellsF ⟨st, PX, PY, rowsB G.at X0 Y0 WD m⟩ = 0 → IsCells st G.at ⟨st, PX, PY, rowsB G.at X0 Y0 WD m⟩ 0) := fun h => .inr ⟨X0, Y0, X1, Y1, hBx.out, .inr ⟨by have := hWW.out; have := hHH.out; omega, .inl ⟨by rw [hmk.out]; exact h, by rw [hmk.out], rfl⟩⟩⟩
      have hAE : Hid (cellsF ⟨st, PX, PY, rowsB G.at X0 Y0 WD m⟩ ≠ 0 → IsCells st G.at ⟨0, 0, 0, []⟩ (cellsF ⟨st, PX, PY, rowsB G.at X0 Y0 WD m⟩)) := fun h => .inr ⟨X0, Y0, X1, Y1, hBx.out, .inr ⟨by have := hWW.out; have := hHH.out; omega, .inr ⟨by rw [hmk.out]; exact h, rfl, by rw [hmk.out]⟩⟩⟩
      obtain ⟨RS, hRS⟩ : ∃ r, r = rowsB G.at X0 Y0 WD m := ⟨_, rfl⟩
      rw [← hRS] at hO hOs hlenm hCk hAC hAE
      obtain ⟨⟨k0, -⟩, ⟨k1, -⟩, ⟨k2, -⟩, ⟨k3, -⟩⟩ := box4_c hb4
      replace hCk := hide (hCk wr hOs)
      replace hRS := hide hRS
      replace hlenm := hide hlenm
      have hlow : w.heap.size ≤ lo := by rw [hlo.out]; exact (hfx.out wz (World.grownBy.refl _ _)).2.2.2.size
      clear r0 hb5 hb6 hmk hle hbd hWb hHb hpx hpy hBx
      go_wp2_with fail
      refine hCk.out.mono ?_
      rintro e w20 ⟨rfl, hg20⟩
      replace hO := (Own.lower hO hlow).pure hg20
      replace hb2 := hb2.pure hg20
      replace hgw := hgw.t hg20
      replace k0 := hg20.k k0
      replace k1 := hg20.k k1
      replace k2 := hg20.k k2
      replace k3 := hg20.k k3
      clear hCk hOs r2 r3 hb4 hgr hfx hg20
      generalize hF : cellsF ⟨st, PX, PY, RS⟩ = F at *
      replace hF := hide hF
      obtain ⟨⟨d0, f0⟩, ⟨d1, f1⟩, ⟨d2, f2⟩, ⟨d3, f3⟩⟩ := box4_c hb2
      rcases hb : (F != 0) with _ | _
      · have hC := hide (hAC.out (by simpa using hb))
        clear hAE hAC hF
        go_wp2_with fail
        clear d0 d1 d2 d3 f0 f1 f2 f3 k0 k1 k2 k3
        have hgf := gr_new hgw (set4_gr (w := w20) (g := x2) (.int .i64 st) (.int .i64 PX) (.int .i64 PY) (.slice A m cc)) hxl2
        have hOf := hO.ne (set4_gr (w := w20) (g := x2) (.int .i64 st) (.int .i64 PX) (.int .i64 PY) (.slice A m cc)) (fun x h e => hb2.ne_own hO (by decide) (by injection e with e; rw [e]; exact h))
        have hbf := box_set4 hb2 (.int .i64 st) (.int .i64 PX) (.int .i64 PY) (.slice A m cc)
        generalize (((w20.setCell ⟨x2, 0, none⟩ (.int .i64 st)).setCell ⟨x2, 1, none⟩ (.int .i64 PX)).setCell ⟨x2, 2, none⟩ (.int .i64 PY)).setCell ⟨x2, 3, none⟩ (.slice A m cc) = wf at *
        obtain ⟨⟨d0, f0⟩, ⟨d1, f1⟩, ⟨d2, f2⟩, ⟨d3, f3⟩⟩ := box4_c hbf
        exact bodyPost_ret (v := .tuple #[.agg #[.int .i64 st, .int .i64 PX, .int .i64 PY, .slice A m cc], .int .i64 0]) (by simp [results, Tryz.results70, go_sem, d0, d1, d2, d3, f0, f1, f2, f3]) rfl ⟨⟨st, PX, PY, RS⟩, 0, A, cc, by rw [hlenm.out], hC.out, hOf, hgf⟩
      · have hC := hide (hAE.out (by simpa using hb))
        clear hAE hAC hF
        go_wp2_with fail
        clear d0 d1 d2 d3 f0 f1 f2 f3 k0 k1 k2 k3
        have hgf := gr_new hgw (set4_gr (w := w20) (g := x2) (.int .i64 0) (.int .i64 0) (.int .i64 0) (.slice none 0 0)) hxl2
        have hbf := box_set4 hb2 (.int .i64 0) (.int .i64 0) (.int .i64 0) (.slice none 0 0)
        generalize (((w20.setCell ⟨x2, 0, none⟩ (.int .i64 0)).setCell ⟨x2, 1, none⟩ (.int .i64 0)).setCell ⟨x2, 2, none⟩ (.int .i64 0)).setCell ⟨x2, 3, none⟩ (.slice none 0 0) = wf at *
        obtain ⟨⟨d0, f0⟩, ⟨d1, f1⟩, ⟨d2, f2⟩, ⟨d3, f3⟩⟩ := box4_c hbf
        exact bodyPost_ret (v := .tuple #[.agg #[.int .i64 0, .int .i64 0, .int .i64 0, .slice none 0 0], .int .i64 F]) (by simp [results, Tryz.results70, go_sem, d0, d1, d2, d3, f0, f1, f2, f3]) rfl ⟨⟨0, 0, 0, []⟩, F, none, 0, rfl, hC.out, Own.nil _ _ _, hgf⟩

end Go.Proofs.YtgcpegjggakemaaGreatDoor

namespace Go.Bl
open Go
/-- grids of the same place -/
def Grd.same (A B : Grd) : Prop := A.step = B.step ∧ A.x = B.x ∧ A.y = B.y ∧ A.wide = B.wide ∧ A.high = B.high

theorem Grd.same.refl (A : Grd) : A.same A := ⟨rfl, rfl, rfl, rfl, rfl⟩

theorem Grd.same.in_ {A B : Grd} (h : A.same B) (x y : Int) : A.In x y ↔ B.In x y := by
  obtain ⟨h1, h2, h3, h4, h5⟩ := h
  unfold Grd.In
  rw [h2, h3, h4, h5]

theorem Grd.same.put {A B : Grd} (h : A.same B) (x y : Int) : (A.put x y).same B := h
/-- cells and an error, or the error alone -/
def ResC (F step : Int) (S : Int → Int → Bool) (c : Cel) (er : Int) : Prop := F ≠ 0 ∧ c = ⟨0, 0, 0, []⟩ ∧ er = F ∨ F = 0 ∧ IsCells step S c er

theorem ResC.uniq {F step : Int} {S : Int → Int → Bool} {c d : Cel} {e f : Int} (h : ResC F step S c e) (k : ResC F step S d f) : c = d ∧ e = f := by
  rcases h with ⟨h1, rfl, rfl⟩ | ⟨h1, h⟩
  · rcases k with ⟨_, rfl, rfl⟩ | ⟨k1, _⟩
    · exact ⟨rfl, rfl⟩
    · exact absurd k1 h1
  · rcases k with ⟨k1, _, _⟩ | ⟨_, k⟩
    · exact absurd h1 k1
    · exact h.uniq k

theorem ResC.congr {F step : Int} {S T : Int → Int → Bool} {c : Cel} {e : Int} (h : ResC F step S c e) (hS : F = 0 → ∀ x y, S x y = T x y) : ResC F step T c e := by
  rcases h with h | ⟨h1, h⟩
  · exact .inl h
  · exact .inr ⟨h1, h.congr (hS h1)⟩

end Go.Bl
namespace Go.Proofs.YtgcpegjggakemaaGreatDoor
open Go Go.RowKit Go.Bl

/-- cells are set in a grid: those of it, and those of a set -/
def SetI (w0 : World) (o ob : Nat) (O : Grd) (T : Int → Int → Bool) (w : World) : Prop :=
  ∃ O' : Grd, GridAt w o ob O' ∧ O'.same O ∧ (∀ x y, O'.at x y = (O.at x y || T x y)) ∧ w0.grownBy w (some ob)

theorem SetI.pure {w0 w w' : World} {o ob : Nat} {O : Grd} {T : Int → Int → Bool} (h : SetI w0 o ob O T w) (hg : w.grownBy w' none) : SetI w0 o ob O T w' :=
  let ⟨O', h1, h2, h3, h4⟩ := h
  ⟨O', h1.pure hg, h2, h3, gr_trans h4 (gr_any hg)⟩

theorem SetI.congr {w0 w : World} {o ob : Nat} {O : Grd} {T U : Int → Int → Bool} (h : SetI w0 o ob O T w) (hT : ∀ x y, T x y = U x y) : SetI w0 o ob O U w :=
  let ⟨O', h1, h2, h3, h4⟩ := h
  ⟨O', h1, h2, fun x y => by rw [h3, hT], h4⟩

theorem SetI.start {w : World} {o ob : Nat} {O : Grd} (h : GridAt w o ob O) : SetI w o ob O (fun _ _ => false) w :=
  ⟨O, h, Grd.same.refl O, fun x y => by simp, World.grownBy.refl _ _⟩

theorem SetI.grid {w0 w : World} {o ob g b : Nat} {O G : Grd} {T : Int → Int → Bool} (h : SetI w0 o ob O T w) (hG : GridAt w0 g b G) (h1 : ob ≠ g) (h2 : ob ≠ b) : GridAt w g b G :=
  let ⟨_, _, _, _, h4⟩ := h
  hG.gr h4 (by intro e; injection e with e; exact h1 e) (by intro e; injection e with e; exact h2 e)

set_option maxHeartbeats 400000 in
theorem setI_any (w0 : World) (o ob : Nat) (O : Grd) (T U : Int → Int → Bool) (x y : Int) (w : World) (h : SetI w0 o ob O T w) (hi : O.In x y) (hU : ∀ u v, U u v = (T u v || decide (u = x ∧ v = y))) :
    Calls Tryz.prog 94 #[.pointer (some ⟨o, 0, none⟩), .int .i64 x, .int .i64 y] w fun e w' => e = .returned (.tuple #[]) ∧ SetI w0 o ob O U w' := by
  obtain ⟨O', h1, h2, h3, h4⟩ := h
  have hi' : O'.In x y := (h2.in_ x y).2 hi
  refine (set_any o ob O' x y w h1 hi').mono ?_
  rintro e w' ⟨rfl, k1, k2⟩
  exact ⟨rfl, O'.put x y, k1, h2.put x y, fun u v => by rw [h1.ok.put_at hi', h3, hU, Bool.or_assoc], gr_trans h4 k2⟩

set_option maxHeartbeats 1000000 in
set_option maxRecDepth 100000 in
/-- the closure of region.chosen: a cell is set if the function says so -/
theorem chosenClo_any (w0 : World) (o ob : Nat) (O : Grd) (T U : Int → Int → Bool) (px py : Int) (v : Bool) (IK : Nat) (IB IC : Array Value) (ti tp : Nat) (w : World)
    (h : SetI w0 o ob O T w) (hti : w0.cell? ⟨ti, 0, none⟩ = some (.func (.func IK) IB IC)) (hto : w0.cell? ⟨tp, 0, none⟩ = some (.pointer (some ⟨o, 0, none⟩))) (hn1 : ob ≠ ti) (hn2 : ob ≠ tp)
    (hi : v = true → O.In px py) (hU : ∀ x y, U x y = (T x y || (v && decide (x = px ∧ y = py))))
    (hen : ∀ (xs : Array Value) wx, (callFunc IK xs).run Tryz.prog wx = .ok (.enter IK xs) wx)
    (his : ∀ wx, w0.grownBy wx (some ob) → Calls Tryz.prog IK (IB ++ (#[.int .i64 px, .int .i64 py] ++ IC)) wx fun e w' => e = .returned (.bool v) ∧ wx.grownBy w' none) :
    Calls Tryz.prog 153 #[.int .i64 px, .int .i64 py, .pointer (some ⟨ti, 0, none⟩), .pointer (some ⟨tp, 0, none⟩)] w fun e w' => e = .returned (.tuple #[]) ∧ SetI w0 o ob O U w' := by
  have hgw : w0.grownBy w (some ob) := let ⟨_, _, _, _, h4⟩ := h; h4
  have c0 := gr_cell hgw hti (by intro e; injection e with e; exact hn1 e)
  have c1 := gr_cell hgw hto (by intro e; injection e with e; exact hn2 e)
  replace his := hide (his w hgw)
  replace hen := hide hen
  replace h := hide h
  replace hU := hide hU
  replace hi := hide hi
  clear hti hto
  go_enter Tryz.func153, Tryz.ntmps153
  go_wp2_with fail
  rw [hen.out, Oper.upon_enter]
  refine his.out.mono ?_
  rintro e w1 ⟨rfl, hg1⟩
  have h1 := h.out.pure hg1
  replace c1 := hg1.k c1
  cases v
  · have h2 := hide (h1.congr (U := U) fun x y => by rw [hU.out]; simp)
    clear h1 h hU hi
    go_wp2_with fail
    go_end0
    exact ⟨rfl, h2.out⟩
  · have h2 := hide (setI_any w0 o ob O T U px py w1 h1 (hi.out rfl) (fun x y => by rw [hU.out]; simp))
    clear h1 h hU hi
    go_wp2_with fail
    refine h2.out.mono ?_
    rintro e w2 ⟨rfl, h3⟩
    replace h3 := hide h3
    go_wp2_with fail
    go_end0
    exact ⟨rfl, h3.out⟩

end Go.Proofs.YtgcpegjggakemaaGreatDoor

namespace Go.Proofs.YtgcpegjggakemaaGreatDoor
open Go Go.RowKit Go.Bl

set_option maxHeartbeats 4000000 in
set_option maxRecDepth 100000 in
theorem chosen_any (g b : Nat) (G : Grd) (IK : Nat) (IB IC : Array Value) (p : Int → Int → Bool) (w : World) (hG : GridAt w g b G)
    (hen : ∀ (xs : Array Value) wx, (callFunc IK xs).run Tryz.prog wx = .ok (.enter IK xs) wx)
    (his : ∀ x y wx, G.at x y = true → w.grownBy wx none → Calls Tryz.prog IK (IB ++ (#[.int .i64 x, .int .i64 y] ++ IC)) wx fun e w' => e = .returned (.bool (p x y)) ∧ wx.grownBy w' none) :
    Calls Tryz.prog 97 #[.pointer (some ⟨g, 0, none⟩), .func (.func IK) IB IC] w fun e w' => CelsOut w w' G.step (fun x y => G.at x y && p x y) e := by
  have ok := hG.ok
  have hNok : (Grd.none G.step G.x G.y G.wide G.high).Ok := ⟨ok.s, ok.x, ok.y, ok.w, ok.h, by simp [Grd.none]⟩
  have hN := hide (fun W => newGrid_any G.step G.x G.y G.wide G.high W hNok)
  have hcl := hide (fun W (h : w.grownBy W none) => (hG.pure h).cells)
  have hlt := hG.lt
  replace hen := hide hen
  replace his := hide his
  clear hNok
  go_enter Tryz.func97, Tryz.ntmps97
  go_upto_region 1 with fail
  obtain ⟨w4, hw4⟩ : ∃ x, x = ((w).alloc (.cells [.func (.func IK) IB IC].toArray 118)).alloc (.cells [.int .i64 0, .int .i64 0, .int .i64 0, .slice none 0 0].toArray 34) := ⟨_, rfl⟩
  have hba4 : Box w4 (w).heap.size 118 [.func (.func IK) IB IC] := by
    rw [hw4]; exact (Box.new (w) [.func (.func IK) IB IC] 118).pure (gr_alloc (World.grownBy.refl _ _) _)
  have hbb4 : Box w4 ((w).heap.size + 1) 34 [.int .i64 0, .int .i64 0, .int .i64 0, .slice none 0 0] := by
    have h := Box.new ((w).alloc (.cells [.func (.func IK) IB IC].toArray 118)) [.int .i64 0, .int .i64 0, .int .i64 0, .slice none 0 0] 34
    rw [show ((w).alloc (.cells [.func (.func IK) IB IC].toArray 118)).heap.size = (w).heap.size + 1 by simp] at h
    rw [hw4]; exact h
  have hg4 : (w).grownBy w4 none := by rw [hw4]; exact (by repeat (first | exact World.grownBy.refl _ _ | assumption | refine gr_alloc ?_ _ | (apply gr_tail; assumption) | refine gr_drewN ?_ _ | refine gr_drew ?_))
  rw [← hw4]
  clear hw4
  obtain ⟨xb4, hxb4⟩ : ∃ x, x = (w).heap.size + 1 := ⟨_, rfl⟩
  rw [← hxb4] at hbb4 ⊢
  obtain ⟨xa4, hxa4⟩ : ∃ x, x = (w).heap.size := ⟨_, rfl⟩
  rw [← hxa4] at hba4 ⊢
  have hxn4 : xa4 ≠ xb4 := by omega
  replace hxa4 : (w).heap.size ≤ xa4 := by omega
  replace hxb4 : (w).heap.size ≤ xb4 := by omega
  go_cut [6] (fun s6 wx => ∃ x6 gg gb, s6 = .pointer (some ⟨x6, 0, none⟩) ∧ Box wx x6 97 [.pointer (some ⟨gg, 0, none⟩)] ∧ GridAt wx gg gb (Grd.none G.step G.x G.y G.wide G.high) ∧ w4.grownBy wx none ∧ w4.heap.size ≤ x6 ∧ w4.heap.size ≤ gg ∧ w4.heap.size ≤ gb)
  case first =>
    refine wp_region_tree (fun wx => w4.grownBy wx none) [2, 2, 2, 1, 2, 2, 2, 1, 2, 2, 2, 1, 2, 2, 2, 1, 2, 2, 2, 1, 0, 0, 0] (.bl 0 (.bl 1 (.bl 2 (.bl 3 (.bl 4 (.bl 5 (.bl 6 (.bl 7 (.bl 8 (.bl 9 (.bl 10 (.bl 11 (.bl 12 (.bl 13 (.bl 14 (.bl 15 (.bl 16 (.bl 17 (.bl 18 (.bl 19 (.alt (.ef 20 (.ef 21 (.ef 22 .done))) (.ef 21 (.ef 20 (.ef 22 .done)))))))))))))))))))))))) (by kernel_rfl) (by kernel_rfl) (gr_drew (World.grownBy.refl _ _)) ?_
    obtain ⟨w5, hw5⟩ : ∃ x, x = (w4).drew := ⟨_, rfl⟩
    rw [← hw5]
    have hgw5 : (w4).grownBy w5 none := by rw [hw5]; exact gr_drew (World.grownBy.refl _ _)
    clear hw5
    refine tree_p rfl rfl rfl rfl _ rfl (by simp) (fun K hK => ?_)
    apply Exists.intro
    refine ⟨fun wq K' hK' => ?_, ?_⟩
    · go_wp2_with fail
      exact hK'
    go_simp
    refine hK _ ?_
    clear hK K
    refine tree_n rfl rfl _ rfl _ rfl ?_
    try go_simp
    refine tree_p rfl rfl rfl rfl _ rfl (by simp) (fun K hK => ?_)
    apply Exists.intro
    refine ⟨fun wq K' hK' => ?_, ?_⟩
    · go_wp2_with fail
      exact hK'
    go_simp
    refine hK _ ?_
    clear hK K
    refine tree_b rfl rfl rfl rfl _ rfl (by simp) (fun K hK => ?_)
    apply Exists.intro
    refine ⟨fun wq hq K' hK' => ?_, ?_⟩
    · obtain ⟨d0, d1, d2, d3, d4, -⟩ := hcl.out wq (hg4.t hq)
      go_wp2_with fail
      exact hK'
    go_simp
    refine hK _ ?_
    clear hK K
    refine tree_p rfl rfl rfl rfl _ rfl (by simp) (fun K hK => ?_)
    apply Exists.intro
    refine ⟨fun wq K' hK' => ?_, ?_⟩
    · go_wp2_with fail
      exact hK'
    go_simp
    refine hK _ ?_
    clear hK K
    refine tree_n rfl rfl _ rfl _ rfl ?_
    try go_simp
    refine tree_p rfl rfl rfl rfl _ rfl (by simp) (fun K hK => ?_)
    apply Exists.intro
    refine ⟨fun wq K' hK' => ?_, ?_⟩
    · go_wp2_with fail
      exact hK'
    go_simp
    refine hK _ ?_
    clear hK K
    refine tree_b rfl rfl rfl rfl _ rfl (by simp) (fun K hK => ?_)
    apply Exists.intro
    refine ⟨fun wq hq K' hK' => ?_, ?_⟩
    · obtain ⟨d0, d1, d2, d3, d4, -⟩ := hcl.out wq (hg4.t hq)
      go_wp2_with fail
      exact hK'
    go_simp
    refine hK _ ?_
    clear hK K
    refine tree_p rfl rfl rfl rfl _ rfl (by simp) (fun K hK => ?_)
    apply Exists.intro
    refine ⟨fun wq K' hK' => ?_, ?_⟩
    · go_wp2_with fail
      exact hK'
    go_simp
    refine hK _ ?_
    clear hK K
    refine tree_n rfl rfl _ rfl _ rfl ?_
    try go_simp
    refine tree_p rfl rfl rfl rfl _ rfl (by simp) (fun K hK => ?_)
    apply Exists.intro
    refine ⟨fun wq K' hK' => ?_, ?_⟩
    · go_wp2_with fail
      exact hK'
    go_simp
    refine hK _ ?_
    clear hK K
    refine tree_b rfl rfl rfl rfl _ rfl (by simp) (fun K hK => ?_)
    apply Exists.intro
    refine ⟨fun wq hq K' hK' => ?_, ?_⟩
    · obtain ⟨d0, d1, d2, d3, d4, -⟩ := hcl.out wq (hg4.t hq)
      go_wp2_with fail
      exact hK'
    go_simp
    refine hK _ ?_
    clear hK K
    refine tree_p rfl rfl rfl rfl _ rfl (by simp) (fun K hK => ?_)
    apply Exists.intro
    refine ⟨fun wq K' hK' => ?_, ?_⟩
    · go_wp2_with fail
      exact hK'
    go_simp
    refine hK _ ?_
    clear hK K
    refine tree_n rfl rfl _ rfl _ rfl ?_
    try go_simp
    refine tree_p rfl rfl rfl rfl _ rfl (by simp) (fun K hK => ?_)
    apply Exists.intro
    refine ⟨fun wq K' hK' => ?_, ?_⟩
    · go_wp2_with fail
      exact hK'
    go_simp
    refine hK _ ?_
    clear hK K
    refine tree_b rfl rfl rfl rfl _ rfl (by simp) (fun K hK => ?_)
    apply Exists.intro
    refine ⟨fun wq hq K' hK' => ?_, ?_⟩
    · obtain ⟨d0, d1, d2, d3, d4, -⟩ := hcl.out wq (hg4.t hq)
      go_wp2_with fail
      exact hK'
    go_simp
    refine hK _ ?_
    clear hK K
    refine tree_p rfl rfl rfl rfl _ rfl (by simp) (fun K hK => ?_)
    apply Exists.intro
    refine ⟨fun wq K' hK' => ?_, ?_⟩
    · go_wp2_with fail
      exact hK'
    go_simp
    refine hK _ ?_
    clear hK K
    refine tree_n rfl rfl _ rfl _ rfl ?_
    try go_simp
    refine tree_p rfl rfl rfl rfl _ rfl (by simp) (fun K hK => ?_)
    apply Exists.intro
    refine ⟨fun wq K' hK' => ?_, ?_⟩
    · go_wp2_with fail
      exact hK'
    go_simp
    refine hK _ ?_
    clear hK K
    refine tree_b rfl rfl rfl rfl _ rfl (by simp) (fun K hK => ?_)
    apply Exists.intro
    refine ⟨fun wq hq K' hK' => ?_, ?_⟩
    · obtain ⟨d0, d1, d2, d3, d4, -⟩ := hcl.out wq (hg4.t hq)
      go_wp2_with fail
      exact hK'
    go_simp
    refine hK _ ?_
    clear hK K
    refine tree_alt ?_ ?_
    · refine tree_e0 (by kernel_rfl) rfl rfl (fun K hK => ?_)
      go_wp2_with fail
      refine (hN.out w5).mono ?_
      rintro e w20 ⟨gg, gb, rfl, hG20, hg20, hgg, hgb⟩
      go_wp2_with fail
      try go_simp
      refine hK _ _ trivial ?_
      clear hK K
      refine tree_e rfl rfl (fun K hK => ?_)
      go_wp2_with fail
      try go_simp
      refine hK _ _ (gr_alloc (gr_trans hgw5 hg20) _) ?_
      clear hK K
      obtain ⟨w21, hw21⟩ : ∃ x, x = (w20).alloc (.cells [.pointer none].toArray 97) := ⟨_, rfl⟩
      have hg21 : (w20).grownBy w21 none := by rw [hw21]; exact gr_alloc (World.grownBy.refl _ _) _
      have hb21 : Box w21 (w20).heap.size 97 [.pointer none] := by rw [hw21]; exact Box.new _ _ _
      rw [← hw21]
      clear hw21
      obtain ⟨x21, hx21⟩ : ∃ x, x = (w20).heap.size := ⟨_, rfl⟩
      rw [← hx21] at hb21 ⊢
      have hxl21 : (w20).heap.size ≤ x21 := by omega
      clear hx21
      refine tree_e0 (by kernel_rfl) rfl rfl (fun K hK => ?_)
      have hb22 := hb21.pure (w' := w21) (World.grownBy.refl _ _)
      obtain ⟨m0, f0⟩ := hb22.c 0 rfl
      have hG22 := hG20.pure (w' := w21) hg21
      have hgw22 := gr_trans hgw5 (gr_trans hg20 hg21)
      go_wp2_with fail
      try go_simp
      refine hK _ _ trivial ?_
      clear hK K
      refine tree_done ?_
      have hne1 : x21 ≠ gg := fun e => by
        have h1 := hG22.bx.1
        rw [← e] at h1
        exact absurd (h1.uniq hb22.1) (by decide)
      have hne2 : x21 ≠ gb := fun e => hb22.ne_own hG22.on (by decide) (by rw [e]; rfl)
      have hle := hgw5.size
      have hle1 := hg20.size
      have hle2 := hg21.size
      have hbz := hb22.set_ 0 (.pointer (some ⟨gg, 0, none⟩)) (by simp)
      have hGz := hG22.gr (gr_set (World.grownBy.refl w21 (some x21)) (p := ⟨x21, 0, none⟩) (.inl rfl) (.pointer (some ⟨gg, 0, none⟩))) (by intro e; injection e with e; exact hne1 e) (by intro e; injection e with e; exact hne2 e)
      have hgz := gr_set hgw22 (p := ⟨x21, 0, none⟩) (.inr (by show w4.heap.size ≤ x21; omega)) (.pointer (some ⟨gg, 0, none⟩))
      generalize (w21).setCell ⟨x21, 0, none⟩ (.pointer (some ⟨gg, 0, none⟩)) = wz at *
      clear m0 f0
      go_wp2_with fail
      go_meet
      exact ⟨x21, gg, gb, rfl, hbz, hGz, hgz, by omega, by omega, by omega⟩
    · refine tree_e rfl rfl (fun K hK => ?_)
      go_wp2_with fail
      try go_simp
      refine hK _ _ (gr_alloc (gr_trans hgw5 (World.grownBy.refl _ _)) _) ?_
      clear hK K
      obtain ⟨w21, hw21⟩ : ∃ x, x = (w5).alloc (.cells [.pointer none].toArray 97) := ⟨_, rfl⟩
      have hg21 : (w5).grownBy w21 none := by rw [hw21]; exact gr_alloc (World.grownBy.refl _ _) _
      have hb21 : Box w21 (w5).heap.size 97 [.pointer none] := by rw [hw21]; exact Box.new _ _ _
      rw [← hw21]
      clear hw21
      obtain ⟨x21, hx21⟩ : ∃ x, x = (w5).heap.size := ⟨_, rfl⟩
      rw [← hx21] at hb21 ⊢
      have hxl21 : (w5).heap.size ≤ x21 := by omega
      clear hx21
      refine tree_e0 (by kernel_rfl) rfl rfl (fun K hK => ?_)
      go_wp2_with fail
      refine (hN.out w21).mono ?_
      rintro e w20 ⟨gg, gb, rfl, hG20, hg20, hgg, hgb⟩
      go_wp2_with fail
      try go_simp
      refine hK _ _ trivial ?_
      clear hK K
      refine tree_e0 (by kernel_rfl) rfl rfl (fun K hK => ?_)
      have hb22 := hb21.pure (w' := w20) hg20
      obtain ⟨m0, f0⟩ := hb22.c 0 rfl
      have hG22 := hG20.pure (w' := w20) (World.grownBy.refl _ _)
      have hgw22 := gr_trans hgw5 (gr_trans hg21 hg20)
      go_wp2_with fail
      try go_simp
      refine hK _ _ trivial ?_
      clear hK K
      refine tree_done ?_
      have hne1 : x21 ≠ gg := fun e => by
        have h1 := hG22.bx.1
        rw [← e] at h1
        exact absurd (h1.uniq hb22.1) (by decide)
      have hne2 : x21 ≠ gb := fun e => hb22.ne_own hG22.on (by decide) (by rw [e]; rfl)
      have hle := hgw5.size
      have hle1 := hg20.size
      have hle2 := hg21.size
      have hbz := hb22.set_ 0 (.pointer (some ⟨gg, 0, none⟩)) (by simp)
      have hGz := hG22.gr (gr_set (World.grownBy.refl w20 (some x21)) (p := ⟨x21, 0, none⟩) (.inl rfl) (.pointer (some ⟨gg, 0, none⟩))) (by intro e; injection e with e; exact hne1 e) (by intro e; injection e with e; exact hne2 e)
      have hgz := gr_set hgw22 (p := ⟨x21, 0, none⟩) (.inr (by show w4.heap.size ≤ x21; omega)) (.pointer (some ⟨gg, 0, none⟩))
      generalize (w20).setCell ⟨x21, 0, none⟩ (.pointer (some ⟨gg, 0, none⟩)) = wz at *
      clear m0 f0
      go_wp2_with fail
      go_meet
      exact ⟨x21, gg, gb, rfl, hbz, hGz, hgz, by omega, by omega, by omega⟩
  case rest =>
    obtain ⟨x6, gg, gb, rfl, hb6, hGo, hgc, hx6, hgg, hgb⟩ := hcut
    have hwc := hg4.t hgc
    have hle := hg4.size
    have hle2 := hgc.size
    have hxa4' := hba4.lt
    have hE := each_any g b G 153 #[] #[.pointer (some ⟨xa4, 0, none⟩), .pointer (some ⟨x6, 0, none⟩)] (fun k wx => SetI wc gg gb (Grd.none G.step G.x G.y G.wide G.high) (fun x y => G.upto k x y && p x y) wx) wc
      (fun k wx hh => hh.grid (hG.pure hwc) (by omega) (by omega))
      (fun k wx hk hv hh => hh.congr fun x y => by rw [Grd.upto_skip ok hk hv])
      (fun k wx wy hh hg => hh.pure hg)
      (fun k wx hk hv hh => chosenClo_any wc gg gb (Grd.none G.step G.x G.y G.wide G.high) _ _ (G.cx k) (G.cy k) (p (G.cx k) (G.cy k)) IK IB IC xa4 x6 wx hh ((hba4.pure hgc).c 0 rfl).1 (hb6.c 0 rfl).1 (by omega)
        (fun e => hb6.ne_own hGo.on (by decide) (by rw [e]; rfl))
        (fun _ => (ok.in_of hk).1)
        (fun x y => by
          rw [Grd.upto_next ok hk hv]
          by_cases he : x = G.cx k ∧ y = G.cy k
          · obtain ⟨rfl, rfl⟩ := he
            simp
          · simp [he])
        hen.out
        (fun wy hy => his.out (G.cx k) (G.cy k) wy (by rw [ok.at_ix hk]; exact hv) (gr_new hwc hy (by omega))))
      (fun xs wx => run_enter Tryz.func153 (by kernel_rfl) rfl xs wx)
      ((SetI.start hGo).congr fun x y => by simp [Grd.upto_zero])
    replace hE := hide hE
    have hall := hide (Grd.upto_all ok)
    have hbb := hbb4.pure hgc
    have hn6 : gb ≠ xb4 := by have := hbb4.lt; omega
    have hn7 : gb ≠ x6 := fun e => hb6.ne_own hGo.on (by decide) (by rw [e]; rfl)
    clear hG hcl hN hba4 hen his
    go_wp2_with fail
    refine hE.out.mono ?_
    rintro e w7 ⟨rfl, O', hO', hsm, hat, hg7⟩
    have hb7 := hbb.gr hg7 (by intro e; injection e with e; exact hn6 e)
    have hgw7 := gr_new hwc hg7 (show w.heap.size ≤ gb by omega)
    have hc6 := gr_cell hg7 (hb6.c 0 rfl).1 (by intro e; injection e with e; exact hn7 e)
    have hst : Hid (G.step = O'.step) := hsm.1.symm
    have hS : Hid (∀ x y, O'.at x y = (G.at x y && p x y)) := fun x y => by
      rw [hat, Grd.none_at]
      show (false || (G.upto G.on.length x y && p x y)) = _
      rw [hall.out]; rfl
    have hCc := hide (gridCells_any gg gb O' w7 hO')
    clear hE hat hsm hb6 hGo hbb
    go_wp2_with fail
    refine (hCc.out).mono ?_
    rintro e v9 ⟨c9, er9, A9, cc9, rfl, hC9, hO9, hg9⟩
    have hb9 := (hb7).pure hg9
    have hgw9 := (hgw7).t hg9
    obtain ⟨⟨d0, f0⟩, ⟨d1, f1⟩, ⟨d2, f2⟩, ⟨d3, f3⟩⟩ := box4_c hb9
    replace hC9 := hide hC9
    obtain ⟨n9, hn9⟩ : ∃ n, n = c9.rows.length := ⟨_, rfl⟩
    rw [← hn9]
    replace hn9 := hide hn9
    go_wp2_with fail
    clear d0 d1 d2 d3 f0 f1 f2 f3
    have hgf := gr_new hgw9 (set4_gr (w := v9) (g := xb4) (.int .i64 c9.step) (.int .i64 c9.x) (.int .i64 c9.y) (.slice A9 n9 cc9)) hxb4
    have hOf := (Own.lower hO9 ((hgw7).size)).ne (set4_gr (w := v9) (g := xb4) (.int .i64 c9.step) (.int .i64 c9.x) (.int .i64 c9.y) (.slice A9 n9 cc9)) (fun x h e => hb9.ne_own hO9 (by decide) (by injection e with e; rw [e]; exact h))
    have hbf := box_set4 hb9 (.int .i64 c9.step) (.int .i64 c9.x) (.int .i64 c9.y) (.slice A9 n9 cc9)
    generalize (((v9.setCell ⟨xb4, 0, none⟩ (.int .i64 c9.step)).setCell ⟨xb4, 1, none⟩ (.int .i64 c9.x)).setCell ⟨xb4, 2, none⟩ (.int .i64 c9.y)).setCell ⟨xb4, 3, none⟩ (.slice A9 n9 cc9) = wf at *
    obtain ⟨⟨d0, f0⟩, ⟨d1, f1⟩, ⟨d2, f2⟩, ⟨d3, f3⟩⟩ := box4_c hbf
    exact bodyPost_ret (v := .tuple #[.agg #[.int .i64 c9.step, .int .i64 c9.x, .int .i64 c9.y, .slice A9 n9 cc9], .int .i64 er9]) (by simp [results, Tryz.results97, go_sem, d0, d1, d2, d3, f0, f1, f2, f3]) rfl ⟨c9, er9, A9, cc9, by rw [hn9.out], (fun h => by rw [hst.out]; exact IsCells.congr h hS.out) hC9.out, hOf, hgf⟩

end Go.Proofs.YtgcpegjggakemaaGreatDoor

namespace Go.Bl
open Go
/-- what is wrong with two cells together -/
def pairF (a b : Cel) : Int := if cellsF a ≠ 0 then cellsF a else if cellsF b ≠ 0 then cellsF b else if a.step = b.step then 0 else 3

/-- cells as an argument -/
structure CArg (w : World) (c : Cel) (A : Option Addr) (n : Nat) : Prop where
  sl : Sl w 0 A c.rows
  n : c.rows.length = n
  z : ∀ s ∈ c.rows, s.size ≤ 4611686018427387904

theorem CArg.pure {w w' : World} {c : Cel} {A : Option Addr} {n : Nat} (h : CArg w c A n) (hg : w.grownBy w' none) : CArg w' c A n := ⟨h.sl.pure hg, h.n, h.z⟩

end Go.Bl
namespace Go.Proofs.YtgcpegjggakemaaGreatDoor
open Go Go.RowKit Go.Bl

theorem checkArg_any (c : Cel) (A : Option Addr) (n cc : Nat) (w : World) (h : CArg w c A n) :
    Calls Tryz.prog 10 #[.agg #[.int .i64 (c).step, .int .i64 (c).x, .int .i64 (c).y, .slice A n cc]] w fun e w' => e = .returned (.int .i64 (cellsF c)) ∧ w.grownBy w' none :=
  checkCells_any c.step c.x c.y A n cc c.rows w h.sl h.n h.z

theorem gridArg_any (c : Cel) (A : Option Addr) (n cc : Nat) (w : World) (h : CArg w c A n) (hok : CellsOk c) :
    Calls Tryz.prog 81 #[.agg #[.int .i64 (c).step, .int .i64 (c).x, .int .i64 (c).y, .slice A n cc]] w fun e w' => ∃ g b, e = .returned (.pointer (some ⟨g, 0, none⟩)) ∧ GridAt w' g b (gridOf c) ∧ w.grownBy w' none ∧ w.heap.size ≤ g ∧ w.heap.size ≤ b :=
  gridOf_any c.step c.x c.y A n cc c.rows w h.sl h.n hok

end Go.Proofs.YtgcpegjggakemaaGreatDoor

namespace Go.Proofs.YtgcpegjggakemaaGreatDoor
open Go Go.RowKit Go.Bl

/-- what a function leaves that returns cells and an error, if something can be wrong with its arguments -/
def CelsOutF (w0 w : World) (F step : Int) (S : Int → Int → Bool) (e : Ending) : Prop :=
  ∃ (c : Cel) (er : Int) (A : Option Addr) (cc : Nat), e = .returned (.tuple #[.agg #[.int .i64 c.step, .int .i64 c.x, .int .i64 c.y, .slice A c.rows.length cc], .int .i64 er]) ∧ ResC F step S c er ∧ Own w w0.heap.size 9 A cc c.rows ∧ w0.grownBy w none

end Go.Proofs.YtgcpegjggakemaaGreatDoor

namespace Go.Bl
open Go

theorem grid_empty {G : Grd} (h : G.wide = 0) (x y : Int) : G.at x y = false := by
  rcases ha : G.at x y with _ | _
  · rfl
  · have := Grd.at_in ha
    unfold Grd.In at this
    omega
end Go.Bl
namespace Go.Proofs.YtgcpegjggakemaaGreatDoor
open Go Go.RowKit Go.Bl

end Go.Proofs.YtgcpegjggakemaaGreatDoor
