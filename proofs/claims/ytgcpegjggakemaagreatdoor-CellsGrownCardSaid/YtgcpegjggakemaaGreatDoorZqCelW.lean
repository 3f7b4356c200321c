/- Contracts of functions that this seat's laws reach, each: what one call returns and what it leaves in memory; no condition beyond each theorem's own hypotheses. -/
import Derived.Test.YtgcpegjggakemaaGreatDoorZqCelU
import Derived.Test.YtgcpegjggakemaaGreatDoorZqCelN
set_option linter.unusedVariables false
set_option linter.unusedSimpArgs false
namespace Go.Bl
open Go

theorem mkB_cat (a b : List UInt8) : mkB a ++ mkB b = mkB (a ++ b) := by
  apply bytes_ext
  show (mkB a ++ mkB b).data.toList = a ++ b
  simp [mkB]

theorem chr_cat0 {L : ByteArray} {l l' : List UInt8} (hL : L = mkB l) (h : l' = l ++ [if false = true then (35 : UInt8) else 46]) : L ++ (⟨#[46, 35]⟩ : ByteArray).extract 0 1 = mkB l' := by
  rw [hL, h, ← mkB_cat]; rfl

theorem chr_cat1 {L : ByteArray} {l l' : List UInt8} (hL : L = mkB l) (h : l' = l ++ [if true = true then (35 : UInt8) else 46]) : L ++ (⟨#[46, 35]⟩ : ByteArray).extract 1 2 = mkB l' := by
  rw [hL, h, ← mkB_cat]; rfl

end Go.Bl
namespace Go.Proofs.YtgcpegjggakemaaGreatDoor
open Go Go.RowKit Go.Bl Go.Maps Go.WideShapes

set_option maxHeartbeats 8000000 in
set_option maxRecDepth 100000 in
theorem cellsOf_any (mb n : Nat) (S : Int → Int → Bool) (st : Int) (w : World) (hM : SetAt w mb n S) (hs : 2 ≤ st ∧ st ≤ 10000) (hin : ∀ x y, S x y = true → -10000000 ≤ x ∧ x ≤ 10001000 ∧ -10000000 ≤ y ∧ y ≤ 10001000) :
    Calls Tryz.prog 80 #[.map (some mb), .int .i64 st] w fun e w' => CelsOut w w' st S e := by
  replace hin := hide hin
  go_enter Tryz.func80, Tryz.ntmps80
  go_upto_region 1 with fail
  obtain ⟨w4, hw4⟩ : ∃ x, x = (w).alloc (.cells [.int .i64 0, .int .i64 0, .int .i64 0, .slice none 0 0].toArray 34) := ⟨_, rfl⟩
  have hg4 : (w).grownBy w4 none := by rw [hw4]; exact gr_alloc (World.grownBy.refl _ _) _
  have hb4 : Box w4 (w).heap.size 34 [.int .i64 0, .int .i64 0, .int .i64 0, .slice none 0 0] := by rw [hw4]; exact Box.new _ _ _
  have hxs4 := hb4.lt
  rw [← hw4]
  clear hw4
  obtain ⟨x4, hx4⟩ : ∃ x, x = (w).heap.size := ⟨_, rfl⟩
  rw [← hx4] at hb4 hxs4 ⊢
  have hxl4 : (w).heap.size ≤ x4 := by omega
  clear hx4
  have hSp := hide (span_any mb n S w4 (hM.pure hg4) (fun x y h => by have := hin.out x y h; exact okSp_of (by omega) (by omega)))
  go_wp2_with fail
  refine hSp.out.mono ?_
  rintro e w5 ⟨s, X0, Y0, X1, Y1, rfl, hbst, hg5⟩
  replace hb4 := hb4.pure hg5
  have hgw := hg4.t hg5
  replace hM := hM.pure hgw
  replace hbst := hide hbst
  clear hSp hg5 hg4
  go_upto_region 2 with fail
  obtain ⟨w7, hw7⟩ : ∃ x, x = ((w5).alloc (.cells [.int .i64 X0, .int .i64 Y0].toArray 89)).alloc (.cells [.int .i64 X1, .int .i64 Y1].toArray 89) := ⟨_, rfl⟩
  have hba7 : Box w7 (w5).heap.size 89 [.int .i64 X0, .int .i64 Y0] := by
    rw [hw7]; exact (Box.new (w5) [.int .i64 X0, .int .i64 Y0] 89).pure (gr_alloc (World.grownBy.refl _ _) _)
  have hbb7 : Box w7 ((w5).heap.size + 1) 89 [.int .i64 X1, .int .i64 Y1] := by
    have h := Box.new ((w5).alloc (.cells [.int .i64 X0, .int .i64 Y0].toArray 89)) [.int .i64 X1, .int .i64 Y1] 89
    rw [show ((w5).alloc (.cells [.int .i64 X0, .int .i64 Y0].toArray 89)).heap.size = (w5).heap.size + 1 by simp] at h
    rw [hw7]; exact h
  have hg7 : (w5).grownBy w7 none := by rw [hw7]; exact (by repeat (first | exact World.grownBy.refl _ _ | assumption | refine gr_alloc ?_ _ | (apply gr_tail; assumption) | refine gr_drewN ?_ _ | refine gr_drew ?_))
  rw [← hw7]
  clear hw7
  obtain ⟨xb7, hxb7⟩ : ∃ x, x = (w5).heap.size + 1 := ⟨_, rfl⟩
  rw [← hxb7] at hbb7 ⊢
  obtain ⟨xa7, hxa7⟩ : ∃ x, x = (w5).heap.size := ⟨_, rfl⟩
  rw [← hxa7] at hba7 ⊢
  have hxn7 : xa7 ≠ xb7 := by omega
  replace hxa7 : (w5).heap.size ≤ xa7 := by omega
  replace hxb7 : (w5).heap.size ≤ xb7 := by omega
  have hx4n : x4 ≠ xa7 ∧ x4 ≠ xb7 := by have := hb4.lt; omega
  replace hb4 := hb4.pure hg7
  replace hgw := hgw.t hg7
  replace hM := hM.pure hg7
  replace hM := hide hM
  clear hg7
  cases s
  · have hno : ∀ x y, S x y = false := by
      rcases hbst.out with ⟨-, h⟩ | ⟨h, -⟩
      · exact h
      · cases h
    have hC : Hid (IsCells st S ⟨st, 0, 0, []⟩ 0) := .inl ⟨hno, rfl, rfl⟩
    clear hbst hno
    obtain ⟨⟨d0, f0⟩, ⟨d1, f1⟩, ⟨d2, f2⟩, ⟨d3, f3⟩⟩ := box4_c hb4
    go_wp2_with fail
    clear d0 d1 d2 d3 f0 f1 f2 f3
    have hgz := gr_new hgw (set4_gr (w := w7) (g := x4) (.int .i64 st) (.int .i64 0) (.int .i64 0) (.slice none 0 0)) hxl4
    have hbz := box_set4 hb4 (.int .i64 st) (.int .i64 0) (.int .i64 0) (.slice none 0 0)
    generalize (((w7.setCell ⟨x4, 0, none⟩ (.int .i64 st)).setCell ⟨x4, 1, none⟩ (.int .i64 0)).setCell ⟨x4, 2, none⟩ (.int .i64 0)).setCell ⟨x4, 3, none⟩ (.slice none 0 0) = wz at *
    obtain ⟨⟨d0, f0⟩, ⟨d1, f1⟩, ⟨d2, f2⟩, ⟨d3, f3⟩⟩ := box4_c hbz
    exact bodyPost_ret (v := .tuple #[.agg #[.int .i64 st, .int .i64 0, .int .i64 0, .slice none 0 0], .int .i64 0]) (by simp [results, Tryz.results80, go_sem, d0, d1, d2, d3, f0, f1, f2, f3]) rfl ⟨⟨st, 0, 0, []⟩, 0, none, 0, rfl, hC.out, Own.nil _ _ _, hgz⟩
  have hBx : Box4 S X0 Y0 X1 Y1 := by
    rcases hbst.out with ⟨h, -⟩ | ⟨-, h⟩
    · cases h
    · exact h
  clear hbst
  have hle := hBx.le
  have hbd : -10000000 ≤ X0 ∧ X0 ≤ 10001000 ∧ -10000000 ≤ Y0 ∧ Y0 ≤ 10001000 ∧ -10000000 ≤ X1 ∧ X1 ≤ 10001000 ∧ -10000000 ≤ Y1 ∧ Y1 ≤ 10001000 := by
    obtain ⟨y1, a1⟩ := hBx.l; obtain ⟨y2, a2⟩ := hBx.r; obtain ⟨y3, a3⟩ := hBx.b; obtain ⟨y4, a4⟩ := hBx.t
    have := hin.out _ _ a1; have := hin.out _ _ a2; have := hin.out _ _ a3; have := hin.out _ _ a4
    omega
  replace hBx := hide hBx
  obtain ⟨p0, -⟩ := hba7.c 0 rfl
  obtain ⟨p1, -⟩ := hba7.c 1 rfl
  obtain ⟨p2, -⟩ := hbb7.c 0 rfl
  obtain ⟨p3, -⟩ := hbb7.c 1 rfl
  rcases q1 : decide (X1 - X0 ≥ 200) with _ | _
  rotate_left
  · have hC : Hid (IsCells st S ⟨0, 0, 0, []⟩ 12) := .inr ⟨X0, Y0, X1, Y1, hBx.out, .inl ⟨.inl (by simp at q1; omega), rfl, rfl⟩⟩
    obtain ⟨⟨d0, f0⟩, ⟨d1, f1⟩, ⟨d2, f2⟩, ⟨d3, f3⟩⟩ := box4_c hb4
    go_wp2_with fail
    clear d0 d1 d2 d3 f0 f1 f2 f3
    have hgz := gr_new hgw (set4_gr (w := w7) (g := x4) (.int .i64 0) (.int .i64 0) (.int .i64 0) (.slice none 0 0)) hxl4
    have hbz := box_set4 hb4 (.int .i64 0) (.int .i64 0) (.int .i64 0) (.slice none 0 0)
    generalize (((w7.setCell ⟨x4, 0, none⟩ (.int .i64 0)).setCell ⟨x4, 1, none⟩ (.int .i64 0)).setCell ⟨x4, 2, none⟩ (.int .i64 0)).setCell ⟨x4, 3, none⟩ (.slice none 0 0) = wz at *
    obtain ⟨⟨d0, f0⟩, ⟨d1, f1⟩, ⟨d2, f2⟩, ⟨d3, f3⟩⟩ := box4_c hbz
    exact bodyPost_ret (v := .tuple #[.agg #[.int .i64 0, .int .i64 0, .int .i64 0, .slice none 0 0], .int .i64 12]) (by simp [results, Tryz.results80, go_sem, d0, d1, d2, d3, f0, f1, f2, f3]) rfl ⟨⟨0, 0, 0, []⟩, 12, none, 0, rfl, hC.out, Own.nil _ _ _, hgz⟩
  rcases q2 : decide (Y1 - Y0 ≥ 200) with _ | _
  rotate_left
  · have hC : Hid (IsCells st S ⟨0, 0, 0, []⟩ 12) := .inr ⟨X0, Y0, X1, Y1, hBx.out, .inl ⟨.inr (by simp at q2; omega), rfl, rfl⟩⟩
    obtain ⟨⟨d0, f0⟩, ⟨d1, f1⟩, ⟨d2, f2⟩, ⟨d3, f3⟩⟩ := box4_c hb4
    go_wp2_with fail
    clear d0 d1 d2 d3 f0 f1 f2 f3
    have hgz := gr_new hgw (set4_gr (w := w7) (g := x4) (.int .i64 0) (.int .i64 0) (.int .i64 0) (.slice none 0 0)) hxl4
    have hbz := box_set4 hb4 (.int .i64 0) (.int .i64 0) (.int .i64 0) (.slice none 0 0)
    generalize (((w7.setCell ⟨x4, 0, none⟩ (.int .i64 0)).setCell ⟨x4, 1, none⟩ (.int .i64 0)).setCell ⟨x4, 2, none⟩ (.int .i64 0)).setCell ⟨x4, 3, none⟩ (.slice none 0 0) = wz at *
    obtain ⟨⟨d0, f0⟩, ⟨d1, f1⟩, ⟨d2, f2⟩, ⟨d3, f3⟩⟩ := box4_c hbz
    exact bodyPost_ret (v := .tuple #[.agg #[.int .i64 0, .int .i64 0, .int .i64 0, .slice none 0 0], .int .i64 12]) (by simp [results, Tryz.results80, go_sem, d0, d1, d2, d3, f0, f1, f2, f3]) rfl ⟨⟨0, 0, 0, []⟩, 12, none, 0, rfl, hC.out, Own.nil _ _ _, hgz⟩
  have hnar : ¬ (199 < X1 - X0 ∨ 199 < Y1 - Y0) := by simp at q1 q2; omega
  obtain ⟨WD, hWD⟩ : ∃ n : Nat, n = (X1 - X0 + 1).toNat := ⟨_, rfl⟩
  obtain ⟨HD, hHD⟩ : ∃ n : Nat, n = (Y1 - Y0 + 1).toNat := ⟨_, rfl⟩
  have hWI : (WD : Int) = X1 - X0 + 1 := by omega
  have hHI : (HD : Int) = Y1 - Y0 + 1 := by omega
  have hWb : WD ≤ 200 := by omega
  have hHb : HD ≤ 200 := by omega
  have hpx := mul_bdC (a := X0) (b := st) (A := 100000000) (B := 10000) (by omega) (by omega) (by omega) (by omega) (by omega)
  have hpy := mul_bdC (a := Y0) (b := st) (A := 100000000) (B := 10000) (by omega) (by omega) (by omega) (by omega) (by omega)
  obtain ⟨PX, hPX⟩ : ∃ x, X0 * st = x := ⟨_, rfl⟩
  obtain ⟨PY, hPY⟩ : ∃ x, Y0 * st = x := ⟨_, rfl⟩
  rw [hPX] at hpx
  rw [hPY] at hpy
  have hmk : Hid (mkC st S X0 Y0 X1 Y1 = ⟨st, PX, PY, rowsB S X0 Y0 WD HD⟩) := by rw [Hid, mkC, hPX, hPY, hWD, hHD]
  replace hWD := hide hWD
  replace hHD := hide hHD
  replace hWI := hide hWI
  replace hHI := hide hHI
  go_upto_region 7 with fail
  clear p2 p3
  obtain ⟨w9, hw9⟩ : ∃ x, x = (w7).alloc (.cells [.int .i64 st, .int .i64 PX, .int .i64 PY, .slice none 0 0].toArray 34) := ⟨_, rfl⟩
  have hg9 : (w7).grownBy w9 none := by rw [hw9]; exact gr_alloc (World.grownBy.refl _ _) _
  have hb9 : Box w9 (w7).heap.size 34 [.int .i64 st, .int .i64 PX, .int .i64 PY, .slice none 0 0] := by rw [hw9]; exact Box.new _ _ _
  have hxs9 := hb9.lt
  rw [← hw9]
  clear hw9
  obtain ⟨x9, hx9⟩ : ∃ x, x = (w7).heap.size := ⟨_, rfl⟩
  rw [← hx9] at hb9 hxs9 ⊢
  have hxl9 : (w7).heap.size ≤ x9 := by omega
  clear hx9
  have hn9 : x9 ≠ x4 ∧ x9 ≠ xa7 ∧ x9 ≠ xb7 ∧ x9 ≠ mb := by
    have := hb4.lt; have := hba7.lt; have := hbb7.lt; have := hM.out.lt
    omega
  have hw9 := hgw.size
  have hfx : Hid (∀ wx, w9.grownBy wx (some x9) → Box wx x4 34 [.int .i64 0, .int .i64 0, .int .i64 0, .slice none 0 0] ∧ Box wx xa7 89 [.int .i64 X0, .int .i64 Y0] ∧ Box wx xb7 89 [.int .i64 X1, .int .i64 Y1] ∧ SetAt wx mb n S ∧ w.grownBy wx none) := fun wx h =>
    ⟨(hb4.pure hg9).gr h (by intro e; injection e with e; exact hn9.1 e), (hba7.pure hg9).gr h (by intro e; injection e with e; exact hn9.2.1 e), (hbb7.pure hg9).gr h (by intro e; injection e with e; exact hn9.2.2.1 e),
      (hM.out.pure hg9).gr h (by intro e; injection e with e; exact hn9.2.2.2 e), gr_new (hgw.t hg9) h (by omega)⟩
  obtain ⟨lo, hlo⟩ : ∃ n, n = w9.heap.size := ⟨_, rfl⟩
  have hx9lo : x9 < lo := by omega
  have hI0 : Own w9 lo 9 none 0 (rowsB S X0 Y0 WD 0) := Own.nil _ _ _
  have hself := World.grownBy.refl w9 (some x9)
  replace p1 := hg9.k p1
  replace hlo := hide hlo
  clear q1 q2 hPX hPY hb4 hba7 hbb7 hgw hnar p0 hM
  go_wp2_with fail
  go_loopw [10] (fun i wr => ∃ (m : Nat) (A : Option Addr) (cc : Nat), m ≤ HD ∧ i = .int .i64 (Y0 + (m : Int)) ∧ Box wr x9 34 [.int .i64 st, .int .i64 PX, .int .i64 PY, .slice A m cc] ∧ Own wr lo 9 A cc (rowsB S X0 Y0 WD m) ∧ w9.grownBy wr (some x9)) (fun i _ => HD - (intOf i - Y0).toNat)
  case atStart => exact ⟨0, none, 0, Nat.zero_le _, by simp, hb9, hI0, hself⟩
  case round =>
    clear hb9 hI0 hself p1
    obtain ⟨m, A, cc, hm, rfl, hb9, hO, hgr⟩ := hrel
    obtain ⟨hb4, hba7, hbb7, hM, hgw⟩ := hfx.out wr hgr
    obtain ⟨r0, -⟩ := hba7.c 0 rfl
    obtain ⟨r2, -⟩ := hbb7.c 0 rfl
    obtain ⟨r3, -⟩ := hbb7.c 1 rfl
    by_cases hlt : m < HD
    · have hle1 : decide (Y0 + (m : Int) ≤ Y1) = true := by have := hHI.out; simp; omega
      have hyb : -10000000 ≤ Y0 + (m : Int) ∧ Y0 + (m : Int) ≤ 10001000 := by have := hHI.out; omega
      have hself := World.grownBy.refl wr none
      have hrk : Hid (∀ wx, wr.grownBy wx none → wx.cell? ⟨xb7, 0, none⟩ = some (.int .i64 X1) ∧ SetAt wx mb n S) := fun wx h => ⟨h.k r2, hM.pure h⟩
      clear hb4 hba7 hbb7 hM
      obtain ⟨wa, rfl⟩ : ∃ x, x = wr := ⟨_, rfl⟩
      go_wp2_with fail
      go_loopw [11, 12] (fun r i wx => ∃ k : Nat, k ≤ WD ∧ r = .string (mkB (rowL S X0 (Y0 + (m : Int)) k)) ∧ i = .int .i64 (X0 + (k : Int)) ∧ wa.grownBy wx none) (fun _ i _ => WD - (intOf i - X0).toNat)
      case atStart => exact ⟨0, Nat.zero_le _, rfl, by simp, hself⟩
      case round =>
        clear hself r0 r2 r3
        obtain ⟨k, hk, rfl, rfl, hgx⟩ := hrel
        obtain ⟨s2, hMx⟩ := hrk.out wr hgx
        by_cases hkl : k < WD
        · have hle2 : decide (X0 + (k : Int) ≤ X1) = true := by have := hWI.out; simp; omega
          have hxb : -10000000 ≤ X0 + (k : Int) ∧ X0 + (k : Int) ≤ 10001000 := by have := hWI.out; omega
          have hLk := hide (fun W (h : wr.grownBy W none) => (hMx.pure h).look (x := X0 + (k : Int)) (y := Y0 + (m : Int)) (okSp_of (by omega) (by omega)))
          have hsuc := rowL_succ S X0 (Y0 + (m : Int)) k
          have hsz : (mkB (rowL S X0 (Y0 + (m : Int)) k)).size = k := by rw [rowL_mk, rowB_size]
          obtain ⟨v, hv⟩ : ∃ v, v = S (X0 + (k : Int)) (Y0 + (m : Int)) := ⟨_, rfl⟩
          rw [← hv] at hsuc hLk
          obtain ⟨L, hL⟩ : ∃ L, L = mkB (rowL S X0 (Y0 + (m : Int)) k) := ⟨_, rfl⟩
          rw [← hL] at hsz
          have hLs : L.size ≤ 200 := by omega
          replace hsz := hide hsz
          go_upto_region 14 with fail
          rw [← hL]
          clear s2
          replace hL := hide hL
          clear hv
          obtain ⟨j, hj1, hTr, hcat⟩ : ∃ j : Nat, j ≤ 1 ∧ Hid (∀ W, Calls Tryz.prog 88 #[.bool v] W fun e w' => e = .returned (.int .i64 (j : Int)) ∧ W = w') ∧ Hid (L ++ (⟨#[46, 35]⟩ : ByteArray).extract j (j + 1) = mkB (rowL S X0 (Y0 + (m : Int)) (k + 1))) := by
            cases v
            · exact ⟨0, by omega, fun W => truth_any false W, chr_cat0 hL.out hsuc⟩
            · exact ⟨1, by omega, fun W => truth_any true W, chr_cat1 hL.out hsuc⟩
          clear hsuc hL
          refine wp_region_tree (fun wx => wr.grownBy wx none) [2, 2, 2, 2, 2, 1, 0, 2, 2, 2, 2, 1, 0, 2, 2, 2, 2] (.bl 0 (.bl 1 (.bl 2 (.bl 3 (.bl 4 (.bl 5 (.bl 7 (.bl 8 (.bl 9 (.bl 10 (.bl 11 (.ef 6 (.ef 12 (.bl 13 (.bl 14 (.bl 15 (.bl 16 .done))))))))))))))))) (by kernel_rfl) (by kernel_rfl) (gr_drew (World.grownBy.refl _ _)) ?_
          obtain ⟨w11, hw11⟩ : ∃ x, x = (wr).drew := ⟨_, rfl⟩
          rw [← hw11]
          have hgw11 : (wr).grownBy w11 none := by rw [hw11]; exact gr_drew (World.grownBy.refl _ _)
          clear hw11
          refine tree_p rfl rfl rfl rfl _ rfl (by simp) (fun K hK => ?_)
          apply Exists.intro
          refine ⟨fun wq K' hK' => ?_, ?_⟩
          · go_wp2_with fail
            exact hK'
          go_simp
          refine hK _ ?_
          clear hK K
          refine tree_p rfl rfl rfl rfl _ rfl (by simp) (fun K hK => ?_)
          apply Exists.intro
          refine ⟨fun wq K' hK' => ?_, ?_⟩
          · go_wp2_with fail
            exact hK'
          go_simp
          refine hK _ ?_
          clear hK K
          refine tree_p rfl rfl rfl rfl _ rfl (by simp) (fun K hK => ?_)
          apply Exists.intro
          refine ⟨fun wq K' hK' => ?_, ?_⟩
          · go_wp2_with fail
            exact hK'
          go_simp
          refine hK _ ?_
          clear hK K
          refine tree_p rfl rfl rfl rfl _ rfl (by simp) (fun K hK => ?_)
          apply Exists.intro
          refine ⟨fun wq K' hK' => ?_, ?_⟩
          · go_wp2_with fail
            exact hK'
          go_simp
          refine hK _ ?_
          clear hK K
          refine tree_p rfl rfl rfl rfl _ rfl (by simp) (fun K hK => ?_)
          apply Exists.intro
          refine ⟨fun wq K' hK' => ?_, ?_⟩
          · go_wp2_with fail
            exact hK'
          go_simp
          refine hK _ ?_
          clear hK K
          refine tree_b rfl rfl rfl rfl _ rfl (by simp) (fun K hK => ?_)
          apply Exists.intro
          refine ⟨fun wq hq K' hK' => ?_, ?_⟩
          · have hlk := hLk.out wq hq
            go_wp2_with fail
            exact hK'
          go_simp
          refine hK _ ?_
          clear hK K
          refine tree_p rfl rfl rfl rfl _ rfl (by simp) (fun K hK => ?_)
          apply Exists.intro
          refine ⟨fun wq K' hK' => ?_, ?_⟩
          · go_wp2_with fail
            exact hK'
          go_simp
          refine hK _ ?_
          clear hK K
          refine tree_p rfl rfl rfl rfl _ rfl (by simp) (fun K hK => ?_)
          apply Exists.intro
          refine ⟨fun wq K' hK' => ?_, ?_⟩
          · go_wp2_with fail
            exact hK'
          go_simp
          refine hK _ ?_
          clear hK K
          refine tree_p rfl rfl rfl rfl _ rfl (by simp) (fun K hK => ?_)
          apply Exists.intro
          refine ⟨fun wq K' hK' => ?_, ?_⟩
          · go_wp2_with fail
            exact hK'
          go_simp
          refine hK _ ?_
          clear hK K
          refine tree_p rfl rfl rfl rfl _ rfl (by simp) (fun K hK => ?_)
          apply Exists.intro
          refine ⟨fun wq K' hK' => ?_, ?_⟩
          · go_wp2_with fail
            exact hK'
          go_simp
          refine hK _ ?_
          clear hK K
          refine tree_b rfl rfl rfl rfl _ rfl (by simp) (fun K hK => ?_)
          apply Exists.intro
          refine ⟨fun wq hq K' hK' => ?_, ?_⟩
          · have hlk := hLk.out wq hq
            go_wp2_with fail
            exact hK'
          go_simp
          refine hK _ ?_
          clear hK K
          refine tree_e rfl rfl (fun K hK => ?_)
          go_wp2_with fail
          refine (hTr.out _).mono ?_
          rintro e w12 ⟨rfl, rfl⟩
          go_wp2_with fail
          try go_simp
          refine hK _ _ (gr_trans hgw11 (World.grownBy.refl _ _)) ?_
          clear hK K
          refine tree_e0 (by kernel_rfl) rfl rfl (fun K hK => ?_)
          go_wp2_with fail
          refine (hTr.out _).mono ?_
          rintro e w12 ⟨rfl, rfl⟩
          go_wp2_with fail
          try go_simp
          refine hK _ _ trivial ?_
          clear hK K
          refine tree_p rfl rfl rfl rfl _ rfl (by simp) (fun K hK => ?_)
          apply Exists.intro
          refine ⟨fun wq K' hK' => ?_, ?_⟩
          · go_wp2_with fail
            exact hK'
          go_simp
          refine hK _ ?_
          clear hK K
          refine tree_p rfl rfl rfl rfl _ rfl (by simp) (fun K hK => ?_)
          apply Exists.intro
          refine ⟨fun wq K' hK' => ?_, ?_⟩
          · go_wp2_with fail
            exact hK'
          go_simp
          refine hK _ ?_
          clear hK K
          refine tree_p rfl rfl rfl rfl _ rfl (by simp) (fun K hK => ?_)
          apply Exists.intro
          refine ⟨fun wq K' hK' => ?_, ?_⟩
          · go_wp2_with fail
            exact hK'
          go_simp
          refine hK _ ?_
          clear hK K
          refine tree_p rfl rfl rfl rfl _ rfl (by simp) (fun K hK => ?_)
          apply Exists.intro
          refine ⟨fun wq K' hK' => ?_, ?_⟩
          · go_wp2_with fail
            exact hK'
          go_simp
          refine hK _ ?_
          clear hK K
          refine tree_done ?_
          go_wp2_with fail
          refine ⟨⟨k + 1, by omega, ?_, ?_, gr_trans hgx hgw11⟩, ?_⟩
          · rw [hcat.out]
          · rw [show X0 + (k : Int) + 1 = X0 + ((k + 1 : Nat) : Int) by omega]
          · have e1 : (X0 + (k : Int) + 1 - X0).toNat = k + 1 := by omega
            have e2 : (X0 + (k : Int) - X0).toNat = k := by omega
            simp only [intOf]
            rw [e1, e2]
            omega
        · obtain rfl : k = WD := by omega
          have hle2 : decide (X0 + (k : Int) ≤ X1) = false := by have := hWI.out; simp; omega
          have hrs := rowsB_succ S X0 Y0 k m
          have hrl := rowsB_len (S := S) (x0 := X0) (y0 := Y0) (n := k) (m := m)
          rw [rowL_mk]
          obtain ⟨R, hR⟩ : ∃ R, R = rowB S X0 (Y0 + (m : Int)) k := ⟨_, rfl⟩
          rw [← hR] at hrs ⊢
          replace hrs := hide hrs
          replace hrl := hide hrl
          replace hR := hide hR
          have hb9r := hb9.pure hgx
          obtain ⟨q3, -⟩ := hb9r.c 3 rfl
          have hO14 := hO.pure hgx
          have hlow : lo ≤ wr.heap.size := by rw [hlo.out]; exact (gr_trans hgr (gr_any hgx)).size
          clear hMx
          obtain ⟨i0, hi0, hzz, hi1, hi2⟩ := info_parts info_strC
          go_upto_region 15 with fail
          clear s2
          go_wp2_with (at_builtin; refine wpList_pushAt (α := ByteArray) _ rfl (.tmp 82) (.tmp 84) _ rfl lo 9 i0 _ 16 Tryz.underlying32 hi0 hzz hi1 hi2 rfl _ _ _ (rowsB S X0 Y0 k m) rfl hrl.out.symm (by exact hO14.pure (gr_alloc (World.grownBy.refl _ _) _)) 0 ⟨_, 0, none⟩ 1 1 [R] rfl rfl (by exact sl_oneAt _ 0 [.string R] _ _ _ (by first | rfl | simp) (Nat.zero_le _) rfl) ?c2 ?c3 ?c4 ?_)
          case c2 => simp only [List.length_cons, List.length_nil, hrl.out]; omega
          case c3 => simp only [List.length_cons, List.length_nil, hrl.out, maxLen]; omega
          case c4 => simp; omega
          intro A15 c15 w15 hO15 hG15
          have hga := gr_alloc (World.grownBy.refl wr none) (.cells #[.string R] 9)
          have hO14a := hO14.pure hga
          have hb14a := hb9r.pure hga
          rw [← hrs.out] at hO15
          have hb15 := hb14a.gr hG15.1 (hb14a.ne_own hO14a (by decide))
          have hgz15 : w9.grownBy w15 (some x9) := gr_row (gr_trans hgr (gr_any (hgx.t hga))) hG15.1 (fun x h2 => by have := (hO14a.blk_lt h2).1; rw [hlo.out] at this; exact this)
          obtain ⟨d3, f3⟩ := hb15.c 3 rfl
          go_wp2_with fail
          rw [hrl.out]
          have hb16 : Box (w15.setCell ⟨x9, 3, none⟩ (.slice A15 (m + 1) c15)) x9 34 [.int .i64 st, .int .i64 PX, .int .i64 PY, .slice A15 (m + 1) c15] := hb15.set_ 3 _ (by simp)
          have hO16 := hO15.set_other (g' := x9) (i := 3) (.slice A15 (m + 1) c15) (hb15.ne_own hO15 (by decide))
          have hg16 : w9.grownBy (w15.setCell ⟨x9, 3, none⟩ (.slice A15 (m + 1) c15)) (some x9) := gr_set hgz15 (.inl rfl) _
          generalize w15.setCell ⟨x9, 3, none⟩ (.slice A15 (m + 1) c15) = w16 at *
          have hHH := hHI.out
          exact ⟨⟨m + 1, A15, c15, by omega, congrArg (Value.int .i64) (by omega), hb16, hO16, hg16⟩, by simp [intOf]; omega⟩
    · obtain rfl : m = HD := by omega
      have hle1 : decide (Y0 + (m : Int) ≤ Y1) = false := by have := hHI.out; simp; omega
      have hOs := hO.sl.mono (Nat.zero_le lo)
      have hlenm := rowsB_len (S := S) (x0 := X0) (y0 := Y0) (n := WD) (m := m)
      have hCk := fun W (hs : Sl W 0 A (rowsB S X0 Y0 WD m)) => cellsFault_any ⟨st, PX, PY, rowsB S X0 Y0 WD m⟩ A m cc W ⟨hs, hlenm, fun s hs => by
        obtain ⟨j, hj, rfl⟩ := List.mem_iff_getElem.1 hs
        rw [← getD_of hj, rowsB_at (by rw [hlenm] at hj; exact hj), rowB_size]
        omega⟩
      have hAC : Hid (cellsF ⟨st, PX, PY, rowsB S X0 Y0 WD m⟩ = 0 → IsCells st S ⟨st, PX, PY, rowsB S X0 Y0 WD m⟩ 0) := fun h => .inr ⟨X0, Y0, X1, Y1, hBx.out, .inr ⟨by have := hWI.out; have := hHI.out; omega, .inl ⟨by rw [hmk.out]; exact h, by rw [hmk.out], rfl⟩⟩⟩
      have hAE : Hid (cellsF ⟨st, PX, PY, rowsB S X0 Y0 WD m⟩ ≠ 0 → IsCells st S ⟨0, 0, 0, []⟩ (cellsF ⟨st, PX, PY, rowsB S X0 Y0 WD m⟩)) := fun h => .inr ⟨X0, Y0, X1, Y1, hBx.out, .inr ⟨by have := hWI.out; have := hHI.out; omega, .inr ⟨by rw [hmk.out]; exact h, rfl, by rw [hmk.out]⟩⟩⟩
      obtain ⟨RS, hRS⟩ : ∃ r, r = rowsB S X0 Y0 WD m := ⟨_, rfl⟩
      rw [← hRS] at hO hOs hlenm hCk hAC hAE
      obtain ⟨⟨k0, -⟩, ⟨k1, -⟩, ⟨k2, -⟩, ⟨k3, -⟩⟩ := box4_c hb9
      replace hCk := hide (hCk wr hOs)
      replace hRS := hide hRS
      replace hlenm := hide hlenm
      have hlow : w.heap.size ≤ lo := by rw [hlo.out]; exact (hfx.out w9 (World.grownBy.refl _ _)).2.2.2.2.size
      clear r0 hba7 hbb7 hM hmk hle hbd hWb hHb hpx hpy hBx
      go_wp2_with fail
      refine hCk.out.mono ?_
      rintro e w20 ⟨rfl, hg20⟩
      replace hO := (Own.lower hO hlow).pure hg20
      replace hb4 := hb4.pure hg20
      replace hgw := hgw.t hg20
      replace k0 := hg20.k k0
      replace k1 := hg20.k k1
      replace k2 := hg20.k k2
      replace k3 := hg20.k k3
      clear hCk hOs r2 r3 hb9 hgr hfx hg20
      generalize hF : cellsF ⟨st, PX, PY, RS⟩ = F at *
      replace hF := hide hF
      obtain ⟨⟨d0, f0⟩, ⟨d1, f1⟩, ⟨d2, f2⟩, ⟨d3, f3⟩⟩ := box4_c hb4
      rcases hb : (F != 0) with _ | _
      · have hC := hide (hAC.out (by simpa using hb))
        clear hAE hAC hF
        go_wp2_with fail
        clear d0 d1 d2 d3 f0 f1 f2 f3 k0 k1 k2 k3
        have hgf := gr_new hgw (set4_gr (w := w20) (g := x4) (.int .i64 st) (.int .i64 PX) (.int .i64 PY) (.slice A m cc)) hxl4
        have hOf := hO.ne (set4_gr (w := w20) (g := x4) (.int .i64 st) (.int .i64 PX) (.int .i64 PY) (.slice A m cc)) (fun x h e => hb4.ne_own hO (by decide) (by injection e with e; rw [e]; exact h))
        have hbf := box_set4 hb4 (.int .i64 st) (.int .i64 PX) (.int .i64 PY) (.slice A m cc)
        generalize (((w20.setCell ⟨x4, 0, none⟩ (.int .i64 st)).setCell ⟨x4, 1, none⟩ (.int .i64 PX)).setCell ⟨x4, 2, none⟩ (.int .i64 PY)).setCell ⟨x4, 3, none⟩ (.slice A m cc) = wf at *
        obtain ⟨⟨d0, f0⟩, ⟨d1, f1⟩, ⟨d2, f2⟩, ⟨d3, f3⟩⟩ := box4_c hbf
        exact bodyPost_ret (v := .tuple #[.agg #[.int .i64 st, .int .i64 PX, .int .i64 PY, .slice A m cc], .int .i64 0]) (by simp [results, Tryz.results80, go_sem, d0, d1, d2, d3, f0, f1, f2, f3]) rfl ⟨⟨st, PX, PY, RS⟩, 0, A, cc, by rw [hlenm.out], hC.out, hOf, hgf⟩
      · have hC := hide (hAE.out (by simpa using hb))
        clear hAE hAC hF
        go_wp2_with fail
        clear d0 d1 d2 d3 f0 f1 f2 f3 k0 k1 k2 k3
        have hgf := gr_new hgw (set4_gr (w := w20) (g := x4) (.int .i64 0) (.int .i64 0) (.int .i64 0) (.slice none 0 0)) hxl4
        have hbf := box_set4 hb4 (.int .i64 0) (.int .i64 0) (.int .i64 0) (.slice none 0 0)
        generalize (((w20.setCell ⟨x4, 0, none⟩ (.int .i64 0)).setCell ⟨x4, 1, none⟩ (.int .i64 0)).setCell ⟨x4, 2, none⟩ (.int .i64 0)).setCell ⟨x4, 3, none⟩ (.slice none 0 0) = wf at *
        obtain ⟨⟨d0, f0⟩, ⟨d1, f1⟩, ⟨d2, f2⟩, ⟨d3, f3⟩⟩ := box4_c hbf
        exact bodyPost_ret (v := .tuple #[.agg #[.int .i64 0, .int .i64 0, .int .i64 0, .slice none 0 0], .int .i64 F]) (by simp [results, Tryz.results80, go_sem, d0, d1, d2, d3, f0, f1, f2, f3]) rfl ⟨⟨0, 0, 0, []⟩, F, none, 0, rfl, hC.out, Own.nil _ _ _, hgf⟩

end Go.Proofs.YtgcpegjggakemaaGreatDoor

namespace Go.Bl
open Go

def TK (A B P : Int → Int → Bool) (k : Nat) (x y : Int) : Bool := ((decide (1 ≤ k) && A x y) || (decide (2 ≤ k) && B x y)) && P x y

end Go.Bl
namespace Go.Proofs.YtgcpegjggakemaaGreatDoor
open Go Go.RowKit Go.Bl Go.Maps Go.WideShapes

end Go.Proofs.YtgcpegjggakemaaGreatDoor
