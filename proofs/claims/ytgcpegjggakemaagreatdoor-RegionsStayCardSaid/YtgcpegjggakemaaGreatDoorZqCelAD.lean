/- Contracts of functions that this seat's laws reach, each: what one call returns and what it leaves in memory; no condition beyond each theorem's own hypotheses. -/
import Derived.Test.YtgcpegjggakemaaGreatDoorZqCelZ
import Derived.Test.YtgcpegjggakemaaGreatDoorZqCelU
import Derived.Test.YtgcpegjggakemaaGreatDoorZqGrowData
set_option linter.unusedVariables false
set_option linter.unusedSimpArgs false
namespace Go.Bl
open Go

theorem ok_nil {st : Int} (hs : stepB st = false) : CellsOk ⟨st, 0, 0, []⟩ :=
  (IsCells.back (S := fun _ _ => false) (.inl ⟨fun _ _ => rfl, rfl, rfl⟩) hs).1

end Go.Bl
namespace Go.Proofs.YtgcpegjggakemaaGreatDoor
open Go Go.RowKit Go.Bl

set_option maxHeartbeats 4000000 in
set_option maxRecDepth 100000 in
theorem rightCells_any (b : Nat) (N st : Int) (w : World) (hs : Strm w b N) (hN : N ≤ 10000000000) (hsb : stepB st = false) :
    Calls Tryz.prog 37 #[.pointer (some ⟨b, 0, none⟩), .int .i64 st] w fun e w' => ∃ (c : Cel) (A : Option Addr) (cc : Nat), e = .returned (.agg #[.int .i64 (c).step, .int .i64 (c).x, .int .i64 (c).y, .slice A c.rows.length cc]) ∧ Sl w' w.heap.size A c.rows ∧ CellsOk c ∧ c.step = st ∧ (∀ x y, onC c x y = true → -50 ≤ x ∧ x < 50 ∧ -50 ≤ y ∧ y < 50) ∧ SOut b (N + 480) w w' := by
  have hbw := SOut.lt (SOut.refl hs)
  have hst := step_pos hsb
  have hA := hide (fun (k : Nat) (hk : k ≤ 6) wx (h : Strm wx b (N + 80 * k)) => aCells_any b (N + 80 * k) st wx h (by omega) hst)
  replace hsb := hide hsb
  replace hst := hide hst
  go_enter Tryz.func37, Tryz.ntmps37
  go_upto_region 1 with fail
  obtain ⟨w4, hw4⟩ : ∃ x, x = (w).alloc (.cells [.int .i64 0, .int .i64 0, .int .i64 0, .slice none 0 0].toArray 34) := ⟨_, rfl⟩
  have hg4 : (w).grownBy w4 none := by rw [hw4]; exact gr_alloc (World.grownBy.refl _ _) _
  have hb4 : Box w4 (w).heap.size 34 [.int .i64 0, .int .i64 0, .int .i64 0, .slice none 0 0] := by rw [hw4]; exact Box.new _ _ _
  have hxs4 := hb4.lt
  rw [← hw4]
  clear hw4
  obtain ⟨x4, hx4⟩ : ∃ x, x = (w).heap.size := ⟨_, rfl⟩
  rw [← hx4] at hb4 hxs4 ⊢
  have hxl4 : (w).heap.size ≤ x4 := by omega
  clear hx4
  have hs4 : Strm w4 b (N + 80 * (0 : Nat)) := (hs.pure hg4).mono (by omega)
  have hgr4 := gr_any (r := some b) hg4
  have hx4b : b ≠ x4 := by omega
  have hx4w : b + 1 ≤ x4 := by omega
  clear hs hg4
  go_wp2_with fail
  go_loopw [6] (fun i wr => ∃ k : Nat, k ≤ 6 ∧ i = .int .i64 k ∧ Strm wr b (N + 80 * k) ∧ Box wr x4 34 [.int .i64 0, .int .i64 0, .int .i64 0, .slice none 0 0] ∧ w.grownBy wr (some b)) (fun i _ => 6 - (intOf i).toNat)
  case atStart => exact ⟨0, by omega, rfl, hs4, hb4, hgr4⟩
  case round =>
    clear hs4 hb4 hgr4
    obtain ⟨k, hk, rfl, hsr, hb4, hgr⟩ := hrel
    by_cases hlt : k < 6
    · have hAk := hide (hA.out k hk wr hsr)
      go_wp2_with fail
      refine hAk.out.mono ?_
      rintro e w1 ⟨c, A, cc, rfl, hl1, hz1, ho1, hnr⟩
      obtain ⟨n, hn⟩ : ∃ q, q = c.rows.length := ⟨_, rfl⟩
      rw [← hn]
      replace hn := hide hn
      replace hz1 := hide hz1
      replace hnr := hide hnr
      have hb41 := hb4.gr ho1.1 (by intro e; injection e with e; exact hx4b e)
      have hgr1 := gr_trans hgr ho1.1
      have hs1 := ho1.2
      have hx4r : x4 < wr.heap.size := hb4.lt
      have hwr := hgr.size
      clear hAk hb4 hgr hsr ho1
      go_upto_region 4 with fail
      obtain ⟨w5, hw5⟩ : ∃ x, x = (w1).alloc (.cells [.int .i64 (c).step, .int .i64 (c).x, .int .i64 (c).y, .slice A n cc].toArray 34) := ⟨_, rfl⟩
      have hg5 : (w1).grownBy w5 none := by rw [hw5]; exact gr_alloc (World.grownBy.refl _ _) _
      have hb5 : Box w5 (w1).heap.size 34 [.int .i64 (c).step, .int .i64 (c).x, .int .i64 (c).y, .slice A n cc] := by rw [hw5]; exact Box.new _ _ _
      have hxs5 := hb5.lt
      rw [← hw5]
      clear hw5
      obtain ⟨x5, hx5⟩ : ∃ x, x = (w1).heap.size := ⟨_, rfl⟩
      rw [← hx5] at hb5 hxs5 ⊢
      have hxl5 : (w1).heap.size ≤ x5 := by omega
      clear hx5
      replace hl1 := hl1.pure hg5
      replace hb41 := hb41.pure hg5
      replace hs1 := hs1.pure hg5
      replace hgr1 := gr_trans hgr1 (gr_any hg5)
      have hCf := hide (cellsFault_any c A n cc w5 ⟨hl1.mono (Nat.zero_le _), hn.out.symm, fun s h => by have := hz1.out s h; omega⟩)
      obtain ⟨⟨a0, -⟩, ⟨a1, -⟩, ⟨a2, -⟩, ⟨a3, -⟩⟩ := box4_c hb5
      obtain ⟨F, hF⟩ : ∃ F, cellsF c = F := ⟨_, rfl⟩
      rw [hF] at hCf
      clear hz1
      go_wp2_with fail
      refine hCf.out.mono ?_
      rintro e w6 ⟨rfl, hg6⟩
      have hl6 := hl1.pure hg6
      have hb46 := hb41.pure hg6
      have hs6 := hs1.pure hg6
      have hgr6 := gr_trans hgr1 (gr_any hg6)
      have hb56 := hb5.pure hg6
      clear a0 a1 a2 a3 hCf hb41 hs1 hgr1 hb5 hg5 hg6
      by_cases h0 : F = 0
      · subst h0
        have hok := hide (cells_ok.1 hF)
        have hnn := hide (hnr.out hF)
        have hnE := hn
        obtain ⟨⟨a0, -⟩, ⟨a1, -⟩, ⟨a2, -⟩, ⟨a3, -⟩⟩ := box4_c hb56
        replace hF := hide hF
        obtain ⟨⟨d0, f0⟩, ⟨d1, f1⟩, ⟨d2, f2⟩, ⟨d3, f3⟩⟩ := box4_c hb46
        go_wp2_with fail
        clear d0 d1 d2 d3 f0 f1 f2 f3
        have hgs := set4_gr (w := w6) (g := x4) (.int .i64 c.step) (.int .i64 c.x) (.int .i64 c.y) (.slice A n cc)
        have hgf := gr_row hgr6 hgs (fun q e => by injection e; omega)
        have hsf := (hs6).gr hgs (fun q e => by injection e; omega)
        have hbf := box_set4 hb46 (.int .i64 c.step) (.int .i64 c.x) (.int .i64 c.y) (.slice A n cc)
        have hlf := (fun h => (hl6.gr h (fun q e => by injection e with e; rw [← e]; exact hx4r)).mono hwr) hgs
        generalize (((w6.setCell ⟨x4, 0, none⟩ (.int .i64 c.step)).setCell ⟨x4, 1, none⟩ (.int .i64 c.x)).setCell ⟨x4, 2, none⟩ (.int .i64 c.y)).setCell ⟨x4, 3, none⟩ (.slice A n cc) = wf at *
        obtain ⟨⟨d0, f0⟩, ⟨d1, f1⟩, ⟨d2, f2⟩, ⟨d3, f3⟩⟩ := box4_c hbf
        exact bodyPost_ret (v := .agg #[.int .i64 c.step, .int .i64 c.x, .int .i64 c.y, .slice A n cc]) (by simp [results, Tryz.results37, go_sem, d0, d1, d2, d3, f0, f1, f2, f3]) rfl ⟨⟨c.step, c.x, c.y, c.rows⟩, A, cc, by rw [hnE.out], hlf, hok.out, hnn.out.1, hnn.out.2, ⟨hgf, hsf.mono (by omega)⟩⟩
      · have hb0 : (F == 0) = false := by simp [h0]
        replace hs6 := hs6.mono (show N + 80 * (k : Int) + 80 ≤ N + 80 * ((k + 1 : Nat) : Int) by omega)
        replace h0 := hide h0
        clear hF hl6 hb56
        go_wp2_with fail
        (go_roundw; (case rel => exact ⟨k + 1, by omega, by go_num, hs6, hb46, hgr6⟩); (case measure => simp [intOf]; omega))
    · obtain rfl : k = 6 := by omega
      have hok := hide (ok_nil hsb.out)
      have hnE : Hid (0 = ([] : List ByteArray).length) := rfl
      obtain ⟨⟨d0, f0⟩, ⟨d1, f1⟩, ⟨d2, f2⟩, ⟨d3, f3⟩⟩ := box4_c hb4
      go_wp2_with fail
      clear d0 d1 d2 d3 f0 f1 f2 f3
      have hgs := set4_gr (w := wr) (g := x4) (.int .i64 st) (.int .i64 0) (.int .i64 0) (.slice (none : Option Addr) 0 0)
      have hgf := gr_row hgr hgs (fun q e => by injection e; omega)
      have hsf := (hsr).gr hgs (fun q e => by injection e; omega)
      have hbf := box_set4 hb4 (.int .i64 st) (.int .i64 0) (.int .i64 0) (.slice (none : Option Addr) 0 0)
      have hlf := (fun {W : World} (_ : wr.grownBy W (some x4)) => (Sl.nil : Sl W w.heap.size none ([] : List ByteArray))) hgs
      generalize (((wr.setCell ⟨x4, 0, none⟩ (.int .i64 st)).setCell ⟨x4, 1, none⟩ (.int .i64 0)).setCell ⟨x4, 2, none⟩ (.int .i64 0)).setCell ⟨x4, 3, none⟩ (.slice (none : Option Addr) 0 0) = wf at *
      obtain ⟨⟨d0, f0⟩, ⟨d1, f1⟩, ⟨d2, f2⟩, ⟨d3, f3⟩⟩ := box4_c hbf
      exact bodyPost_ret (v := .agg #[.int .i64 st, .int .i64 0, .int .i64 0, .slice (none : Option Addr) 0 0]) (by simp [results, Tryz.results37, go_sem, d0, d1, d2, d3, f0, f1, f2, f3]) rfl ⟨⟨st, 0, 0, ([] : List ByteArray)⟩, (none : Option Addr), 0, by rw [hnE.out], hlf, hok.out, rfl, (fun x y h => by rw [on_nil] at h; cases h), ⟨hgf, hsf.mono (by omega)⟩⟩

end Go.Proofs.YtgcpegjggakemaaGreatDoor
