/- Contracts of functions that this seat's laws reach, each: what one call returns and what it leaves in memory; no condition beyond each theorem's own hypotheses. -/
import Derived.Test.YtgcpegjggakemaaGreatDoorZqCelN
import Derived.Test.YtgcpegjggakemaaGreatDoorZqClosData
set_option linter.unusedVariables false
set_option linter.unusedSimpArgs false
namespace Go.Proofs.YtgcpegjggakemaaGreatDoor
open Go Go.RowKit Go.Bl

set_option maxHeartbeats 1000000 in
theorem growFault_ok (c : Cel) (A : Option Addr) (n cc : Nat) (k : Int) (w : World) (ha : CArg w c A n) (hok : CellsOk c) (hk : 0 ≤ k ∧ k ≤ 20) :
    Calls Tryz.prog 92 #[.agg #[.int .i64 (c).step, .int .i64 (c).x, .int .i64 (c).y, .slice A n cc], .int .i64 k] w fun e w' => e = .returned (.int .i64 0) ∧ w.grownBy w' none := by
  have hCh := hide (fun W (h : w.grownBy W none) => checkArg_any c A n cc W (ha.pure h))
  have hz := hide (cells_ok.2 hok)
  have ho : Hid (outB k 0 20 = false) := by
    simp only [Hid, outB, Bool.or_eq_false_iff, decide_eq_false_iff_not]; omega
  clear ha hok
  go_enter Tryz.func92, Tryz.ntmps92
  go_upto_region 1 with fail
  obtain ⟨w0, hw0⟩ : ∃ x, x = (w).alloc (.cells [.int .i64 (c).step, .int .i64 (c).x, .int .i64 (c).y, .slice A n cc].toArray 34) := ⟨_, rfl⟩
  have hg0 : (w).grownBy w0 none := by rw [hw0]; exact gr_alloc (World.grownBy.refl _ _) _
  have hb0 : Box w0 (w).heap.size 34 [.int .i64 (c).step, .int .i64 (c).x, .int .i64 (c).y, .slice A n cc] := by rw [hw0]; exact Box.new _ _ _
  have hxs0 := hb0.lt
  rw [← hw0]
  clear hw0
  obtain ⟨x0, hx0⟩ : ∃ x, x = (w).heap.size := ⟨_, rfl⟩
  rw [← hx0] at hb0 hxs0 ⊢
  have hxl0 : (w).heap.size ≤ x0 := by omega
  clear hx0
  obtain ⟨⟨a0, -⟩, ⟨a1, -⟩, ⟨a2, -⟩, ⟨a3, -⟩⟩ := box4_c hb0
  go_wp2_with fail
  refine (hCh.out w0 hg0).mono ?_
  rintro e w1 ⟨rfl, hg1⟩
  rw [hz.out]
  clear a0 a1 a2 a3 hCh
  go_wp2_with (go_at_call 56; refine (outside_any _ _ _ _).mono ?_; rintro _ _ ⟨rfl, rfl⟩; rw [ho.out])
  go_ret
  exact ⟨rfl, hg0.t hg1⟩

set_option maxHeartbeats 2000000 in
set_option maxRecDepth 100000 in
theorem grownClo1_any (w0 : World) (o ob : Nat) (O : Grd) (T : Int → Int → Bool) (px py n : Int) (ti tp : Nat) (w : World)
    (h : SetI w0 o ob O T w) (hti : w0.cell? ⟨ti, 0, none⟩ = some (.int .i64 n)) (hto : w0.cell? ⟨tp, 0, none⟩ = some (.pointer (some ⟨o, 0, none⟩))) (hn1 : ob ≠ ti) (hn2 : ob ≠ tp)
    (hn : 0 ≤ n ∧ n ≤ 20) (hx : -99999999 ≤ px ∧ px ≤ 99999999) (hin : ∀ i, -n ≤ i → i ≤ n → O.In (px + i) py) :
    Calls Tryz.prog 93 #[.int .i64 px, .int .i64 py, .pointer (some ⟨ti, 0, none⟩), .pointer (some ⟨tp, 0, none⟩)] w fun e w' => e = .returned (.tuple #[]) ∧ SetI w0 o ob O (spX T px py (n + 1) n) w' := by
  have hfx := hide (fun U wx (hh : SetI w0 o ob O U wx) => (let ⟨_, _, _, _, h4⟩ := hh; And.intro (gr_cell h4 hti (by intro e; injection e with e; exact hn1 e)) (gr_cell h4 hto (by intro e; injection e with e; exact hn2 e)) : wx.cell? ⟨ti, 0, none⟩ = some (.int .i64 n) ∧ wx.cell? ⟨tp, 0, none⟩ = some (.pointer (some ⟨o, 0, none⟩))))
  have h0 : SetI w0 o ob O (spX T px py (-n) n) w := h.congr fun x y => spX_start.symm
  obtain ⟨c0, -⟩ := hfx.out _ _ h
  replace hin := hide hin
  clear hti hto hn1 hn2 h
  go_enter Tryz.func93, Tryz.ntmps93
  go_wp2_with fail
  clear c0
  go_loopw [6] (fun s wr => ∃ i : Int, (-n ≤ i ∧ i ≤ n + 1) ∧ s = .int .i64 i ∧ SetI w0 o ob O (spX T px py i n) wr) (fun s _ => (n + 1 - intOf s).toNat)
  case atStart => exact ⟨-n, by omega, rfl, h0⟩
  case round =>
    clear h0
    obtain ⟨i, hi, rfl, hS⟩ := hrel
    obtain ⟨c0, c1⟩ := hfx.out _ _ hS
    by_cases hlt : i ≤ n
    · have hSt := hide (setI_any w0 o ob O _ (spX T px py (i + 1) n) (px + i) py wr hS (hin.out i hi.1 hlt) (fun x y => spX_next hi.1))
      clear hS
      go_wp2_with fail
      refine hSt.out.mono ?_
      rintro e w1 ⟨rfl, h1⟩
      clear hSt c0 c1
      go_wp2_with fail
      (go_roundw; (case rel => exact ⟨i + 1, by omega, by go_num, h1⟩); (case measure => simp [intOf]; omega))
    · obtain rfl : i = n + 1 := by omega
      go_wp2_with fail
      go_end0
      exact ⟨rfl, hS⟩

set_option maxHeartbeats 2000000 in
set_option maxRecDepth 100000 in
theorem grownClo2_any (w0 : World) (o ob : Nat) (O : Grd) (T : Int → Int → Bool) (px py n : Int) (ti tp : Nat) (w : World)
    (h : SetI w0 o ob O T w) (hti : w0.cell? ⟨ti, 0, none⟩ = some (.int .i64 n)) (hto : w0.cell? ⟨tp, 0, none⟩ = some (.pointer (some ⟨o, 0, none⟩))) (hn1 : ob ≠ ti) (hn2 : ob ≠ tp)
    (hn : 0 ≤ n ∧ n ≤ 20) (hx : -99999999 ≤ py ∧ py ≤ 99999999) (hin : ∀ i, -n ≤ i → i ≤ n → O.In px (py + i)) :
    Calls Tryz.prog 95 #[.int .i64 px, .int .i64 py, .pointer (some ⟨ti, 0, none⟩), .pointer (some ⟨tp, 0, none⟩)] w fun e w' => e = .returned (.tuple #[]) ∧ SetI w0 o ob O (spY T px py (n + 1) n) w' := by
  have hfx := hide (fun U wx (hh : SetI w0 o ob O U wx) => (let ⟨_, _, _, _, h4⟩ := hh; And.intro (gr_cell h4 hti (by intro e; injection e with e; exact hn1 e)) (gr_cell h4 hto (by intro e; injection e with e; exact hn2 e)) : wx.cell? ⟨ti, 0, none⟩ = some (.int .i64 n) ∧ wx.cell? ⟨tp, 0, none⟩ = some (.pointer (some ⟨o, 0, none⟩))))
  have h0 : SetI w0 o ob O (spY T px py (-n) n) w := h.congr fun x y => spY_start.symm
  obtain ⟨c0, -⟩ := hfx.out _ _ h
  replace hin := hide hin
  clear hti hto hn1 hn2 h
  go_enter Tryz.func95, Tryz.ntmps95
  go_wp2_with fail
  clear c0
  go_loopw [6] (fun s wr => ∃ i : Int, (-n ≤ i ∧ i ≤ n + 1) ∧ s = .int .i64 i ∧ SetI w0 o ob O (spY T px py i n) wr) (fun s _ => (n + 1 - intOf s).toNat)
  case atStart => exact ⟨-n, by omega, rfl, h0⟩
  case round =>
    clear h0
    obtain ⟨i, hi, rfl, hS⟩ := hrel
    obtain ⟨c0, c1⟩ := hfx.out _ _ hS
    by_cases hlt : i ≤ n
    · have hSt := hide (setI_any w0 o ob O _ (spY T px py (i + 1) n) px (py + i) wr hS (hin.out i hi.1 hlt) (fun x y => spY_next hi.1))
      clear hS
      go_wp2_with fail
      refine hSt.out.mono ?_
      rintro e w1 ⟨rfl, h1⟩
      clear hSt c0 c1
      go_wp2_with fail
      (go_roundw; (case rel => exact ⟨i + 1, by omega, by go_num, h1⟩); (case measure => simp [intOf]; omega))
    · obtain rfl : i = n + 1 := by omega
      go_wp2_with fail
      go_end0
      exact ⟨rfl, hS⟩

set_option maxHeartbeats 2000000 in
set_option maxRecDepth 100000 in
theorem shrunkClo1_any (w0 : World) (g b : Nat) (G : Grd) (o ob : Nat) (O : Grd) (T U : Int → Int → Bool) (px py n : Int) (ti tg tp : Nat) (w : World) (hG : GridAt w0 g b G)
    (h : SetI w0 o ob O T w) (hti : w0.cell? ⟨ti, 0, none⟩ = some (.int .i64 n)) (htg : w0.cell? ⟨tg, 0, none⟩ = some (.pointer (some ⟨g, 0, none⟩))) (hto : w0.cell? ⟨tp, 0, none⟩ = some (.pointer (some ⟨o, 0, none⟩))) (hn1 : ob ≠ ti) (hn2 : ob ≠ tp) (hn3 : ob ≠ tg) (hn4 : ob ≠ g) (hn5 : ob ≠ b)
    (hn : 0 ≤ n ∧ n ≤ 20) (hx : -99999900 ≤ px ∧ px ≤ 99999900) (hy : -99999900 ≤ py ∧ py ≤ 99999900) (hin : O.In px py) (hU : ∀ x y, U x y = (T x y || (erX n G.at px py && decide (x = px ∧ y = py)))) :
    Calls Tryz.prog 96 #[.int .i64 px, .int .i64 py, .pointer (some ⟨ti, 0, none⟩), .pointer (some ⟨tg, 0, none⟩), .pointer (some ⟨tp, 0, none⟩)] w fun e w' => e = .returned (.tuple #[]) ∧ SetI w0 o ob O U w' := by
  have hgw : w0.grownBy w (some ob) := let ⟨_, _, _, _, h4⟩ := h; h4
  have hc : Hid (∀ wx, w.grownBy wx none → wx.cell? ⟨ti, 0, none⟩ = some (.int .i64 n) ∧ wx.cell? ⟨tg, 0, none⟩ = some (.pointer (some ⟨g, 0, none⟩)) ∧ wx.cell? ⟨tp, 0, none⟩ = some (.pointer (some ⟨o, 0, none⟩)) ∧ GridAt wx g b G) := fun wx hh =>
    ⟨hh.k (gr_cell hgw hti (by intro e; injection e with e; exact hn1 e)), hh.k (gr_cell hgw htg (by intro e; injection e with e; exact hn3 e)), hh.k (gr_cell hgw hto (by intro e; injection e with e; exact hn2 e)),
      (hG.gr hgw (by intro e; injection e with e; exact hn4 e) (by intro e; injection e with e; exact hn5 e)).pure hh⟩
  have hself := World.grownBy.refl w none
  obtain ⟨c0, -⟩ := hc.out _ hself
  replace h := hide h
  replace hU := hide hU
  clear hti htg hto hn1 hn2 hn3 hn4 hn5 hgw hG
  go_enter Tryz.func96, Tryz.ntmps96
  go_wp2_with fail
  clear c0
  go_loopw [7] (fun s wr => ∃ i : Int, (-n ≤ i ∧ i ≤ n + 1) ∧ s = .int .i64 i ∧ Hid (∀ j, -n ≤ j → j < i → G.at (px + j) py = true) ∧ w.grownBy wr none) (fun s _ => (n + 1 - intOf s).toNat)
  case atStart => exact ⟨-n, by omega, rfl, fun j h1 h2 => by omega, hself⟩
  case round =>
    clear hself
    obtain ⟨i, hi, rfl, hall, hgr⟩ := hrel
    obtain ⟨c0, c1, c2, hGr⟩ := hc.out _ hgr
    by_cases hlt : i ≤ n
    · have hAt := hide (at_any g b G (px + i) py wr hGr (by omega) (by omega))
      clear hGr
      go_wp2_with fail
      refine hAt.out.mono ?_
      rintro e w1 ⟨rfl, hg1⟩
      have hgr1 := hgr.t hg1
      obtain ⟨v, hv⟩ : ∃ v, G.at (px + i) py = v := ⟨_, rfl⟩
      rw [hv]
      clear hAt c0 c1 c2
      cases v
      · have hf : erX n G.at px py = false := by
          rcases he : erX n G.at px py with _ | _
          · rfl
          · have := erX_iff.1 he i hi.1 hlt
            rw [hv] at this; cases this
        have hR := hide ((h.out.pure hgr1).congr (U := U) fun x y => by rw [hU.out, hf]; simp)
        replace hv := hide hv
        clear hf
        go_wp2_with fail
        refine bodyPost_ret (results_none rfl _ _ _) rfl ?_
        exact ⟨rfl, hR.out⟩
      · have hall' : Hid (∀ j, -n ≤ j → j < i + 1 → G.at (px + j) py = true) := fun j h1 h2 => by
          by_cases hj : j = i
          · rw [hj]; exact hv
          · exact hall.out j h1 (by omega)
        replace hv := hide hv
        go_wp2_with fail
        (go_roundw; (case rel => exact ⟨i + 1, by omega, by go_num, hall', hgr1⟩); (case measure => simp [intOf]; omega))
    · obtain rfl : i = n + 1 := by omega
      have ht : erX n G.at px py = true := erX_iff.2 fun j h1 h2 => hall.out j h1 (by omega)
      have hSt := hide (setI_any w0 o ob O T U px py wr (h.out.pure hgr) hin (fun x y => by rw [hU.out, ht]; simp))
      clear ht hGr
      go_wp2_with fail
      refine hSt.out.mono ?_
      rintro e w1 ⟨rfl, h1⟩
      replace h1 := hide h1
      clear hSt
      go_wp2_with fail
      go_end0
      exact ⟨rfl, h1.out⟩

set_option maxHeartbeats 2000000 in
set_option maxRecDepth 100000 in
theorem shrunkClo2_any (o ob : Nat) (O : Grd) (px py n : Int) (ti tp : Nat) (w : World) (hO : GridAt w o ob O) (hti : w.cell? ⟨ti, 0, none⟩ = some (.int .i64 n)) (hto : w.cell? ⟨tp, 0, none⟩ = some (.pointer (some ⟨o, 0, none⟩)))
    (hn : 0 ≤ n ∧ n ≤ 20) (hx : -99999900 ≤ px ∧ px ≤ 99999900) (hy : -99999900 ≤ py ∧ py ≤ 99999900) :
    Calls Tryz.prog 98 #[.int .i64 px, .int .i64 py, .pointer (some ⟨ti, 0, none⟩), .pointer (some ⟨tp, 0, none⟩)] w fun e w' => e = .returned (.bool (erY n O.at px py)) ∧ w.grownBy w' none := by
  have hc : Hid (∀ wx, w.grownBy wx none → wx.cell? ⟨ti, 0, none⟩ = some (.int .i64 n) ∧ wx.cell? ⟨tp, 0, none⟩ = some (.pointer (some ⟨o, 0, none⟩)) ∧ GridAt wx o ob O) := fun wx hh => ⟨hh.k hti, hh.k hto, hO.pure hh⟩
  have hself := World.grownBy.refl w none
  obtain ⟨c0, -⟩ := hc.out _ hself
  obtain ⟨V, hV⟩ : ∃ V, erY n O.at px py = V := ⟨_, rfl⟩
  rw [hV]
  replace hV := hide hV
  clear hti hto hO
  go_enter Tryz.func98, Tryz.ntmps98
  go_wp2_with fail
  clear c0
  go_loopw [7] (fun s wr => ∃ i : Int, (-n ≤ i ∧ i ≤ n + 1) ∧ s = .int .i64 i ∧ Hid (∀ j, -n ≤ j → j < i → O.at px (py + j) = true) ∧ w.grownBy wr none) (fun s _ => (n + 1 - intOf s).toNat)
  case atStart => exact ⟨-n, by omega, rfl, fun j h1 h2 => by omega, hself⟩
  case round =>
    clear hself
    obtain ⟨i, hi, rfl, hall, hgr⟩ := hrel
    obtain ⟨c0, c2, hOr⟩ := hc.out _ hgr
    by_cases hlt : i ≤ n
    · have hAt := hide (at_any o ob O px (py + i) wr hOr (by omega) (by omega))
      clear hOr
      go_wp2_with fail
      refine hAt.out.mono ?_
      rintro e w1 ⟨rfl, hg1⟩
      have hgr1 := hgr.t hg1
      obtain ⟨v, hv⟩ : ∃ v, O.at px (py + i) = v := ⟨_, rfl⟩
      rw [hv]
      clear hAt c0 c2
      cases v
      · have hf : Hid (V = false) := by
          rw [Hid, ← hV.out]
          rcases he : erY n O.at px py with _ | _
          · rfl
          · have := erY_iff.1 he i hi.1 hlt
            rw [hv] at this; cases this
        replace hv := hide hv
        go_wp2_with fail
        go_ret
        exact ⟨ret_bool hf.out.symm, hgr1⟩
      · have hall' : Hid (∀ j, -n ≤ j → j < i + 1 → O.at px (py + j) = true) := fun j h1 h2 => by
          by_cases hj : j = i
          · rw [hj]; exact hv
          · exact hall.out j h1 (by omega)
        replace hv := hide hv
        go_wp2_with fail
        (go_roundw; (case rel => exact ⟨i + 1, by omega, by go_num, hall', hgr1⟩); (case measure => simp [intOf]; omega))
    · obtain rfl : i = n + 1 := by omega
      have ht : Hid (V = true) := by
        rw [Hid, ← hV.out]
        exact erY_iff.2 fun j h1 h2 => hall.out j h1 (by omega)
      clear hOr
      go_wp2_with fail
      go_ret
      exact ⟨ret_bool ht.out.symm, hgr⟩

end Go.Proofs.YtgcpegjggakemaaGreatDoor

namespace Go.Bl
open Go

theorem shr_of {k : Int} (hk : 0 ≤ k) {S R : Int → Int → Bool} (hR : ∀ x y, R x y = (S x y && erX k S x y)) (x y : Int) : (R x y && erY k R x y) = shrS k S x y := by
  have e1 : R = erX k S := funext fun x => funext fun y => by
    rw [hR]
    rcases h : erX k S x y with _ | _
    · simp
    · have := erX_iff.1 h 0 (by omega) (by omega)
      rw [Int.add_zero] at this
      rw [this]; rfl
  rw [e1]
  show (erX k S x y && erY k (erX k S) x y) = erY k (erX k S) x y
  rcases h : erY k (erX k S) x y with _ | _
  · simp
  · have := erY_iff.1 h 0 (by omega) (by omega)
    rw [Int.add_zero] at this
    rw [this]; rfl

theorem gridOf_bd {c : Cel} (h : CellsOk c) : (-2000000 ≤ (gridOf c).x ∧ (gridOf c).x ≤ 2000000) ∧ (-2000000 ≤ (gridOf c).y ∧ (gridOf c).y ≤ 2000000) ∧ (gridOf c).wide ≤ 200 ∧ (gridOf c).high ≤ 200 := by
  have hp := step_pos h.step
  have hx : -2000000 ≤ c.x ∧ c.x ≤ 2000000 := by
    by_cases hr : c.rows.length = 0
    · have := h.nil hr; omega
    · have := h.x hr
      simp only [outB, Bool.or_eq_false_iff, decide_eq_false_iff_not] at this; omega
  have hy : -2000000 ≤ c.y ∧ c.y ≤ 2000000 := by
    by_cases hr : c.rows.length = 0
    · have := h.nil hr; omega
    · have := h.y hr
      simp only [outB, Bool.or_eq_false_iff, decide_eq_false_iff_not] at this; omega
  exact ⟨div_bd hp.1 hx.1 hx.2 (by omega), div_bd hp.1 hy.1 hy.2 (by omega), h.wide, h.many⟩

end Go.Bl
namespace Go.Proofs.YtgcpegjggakemaaGreatDoor
open Go Go.RowKit Go.Bl

set_option maxHeartbeats 4000000 in
set_option maxRecDepth 100000 in
theorem shrunk_any (c : Cel) (A : Option Addr) (n cc : Nat) (k : Int) (w : World) (ha : CArg w c A n) (hok : CellsOk c) (hk : 0 ≤ k ∧ k ≤ 20) :
    Calls Tryz.prog 26 #[.agg #[.int .i64 (c).step, .int .i64 (c).x, .int .i64 (c).y, .slice A n cc], .int .i64 k] w fun e w' => CelsOut w w' c.step (shrS k (onC c)) e := by
  have hGF := hide (fun W (h : w.grownBy W none) => growFault_ok c A n cc k W (ha.pure h) hok hk)
  have hGo := hide (fun W (h : w.grownBy W none) => gridArg_any c A n cc W (ha.pure h) hok)
  have hbd := hide (gridOf_bd hok)
  obtain ⟨G, hGe⟩ : ∃ G, G = gridOf c := ⟨_, rfl⟩
  have hGat : Hid (∀ x y, G.at x y = onC c x y) := fun x y => by rw [hGe, gridOf_at hok]
  have hGs : Hid (G.step = c.step) := by rw [Hid, hGe]; rfl
  rw [← hGe] at hGo hbd
  replace hok := hide hok
  clear hGe ha
  go_enter Tryz.func26, Tryz.ntmps26
  go_upto_region 1 with fail
  obtain ⟨w4, hw4⟩ : ∃ x, x = (((w).alloc (.cells [.int .i64 (c).step, .int .i64 (c).x, .int .i64 (c).y, .slice A n cc].toArray 34)).alloc (.cells [.int .i64 k].toArray 3)).alloc (.cells [.int .i64 0, .int .i64 0, .int .i64 0, .slice none 0 0].toArray 34) := ⟨_, rfl⟩
  have hba4 : Box w4 (w).heap.size 34 [.int .i64 (c).step, .int .i64 (c).x, .int .i64 (c).y, .slice A n cc] := by
    rw [hw4]; exact ((Box.new (w) [.int .i64 (c).step, .int .i64 (c).x, .int .i64 (c).y, .slice A n cc] 34).pure (gr_alloc (World.grownBy.refl _ _) _)).pure (gr_alloc (World.grownBy.refl _ _) _)
  have hbb4 : Box w4 ((w).heap.size + 1) 3 [.int .i64 k] := by
    have h := (Box.new ((w).alloc (.cells [.int .i64 (c).step, .int .i64 (c).x, .int .i64 (c).y, .slice A n cc].toArray 34)) [.int .i64 k] 3).pure (gr_alloc (World.grownBy.refl _ none) (.cells [.int .i64 0, .int .i64 0, .int .i64 0, .slice none 0 0].toArray 34))
    rw [show ((w).alloc (.cells [.int .i64 (c).step, .int .i64 (c).x, .int .i64 (c).y, .slice A n cc].toArray 34)).heap.size = (w).heap.size + 1 by simp] at h
    rw [hw4]; exact h
  have hbc4 : Box w4 ((w).heap.size + 1 + 1) 34 [.int .i64 0, .int .i64 0, .int .i64 0, .slice none 0 0] := by
    have h := Box.new (((w).alloc (.cells [.int .i64 (c).step, .int .i64 (c).x, .int .i64 (c).y, .slice A n cc].toArray 34)).alloc (.cells [.int .i64 k].toArray 3)) [.int .i64 0, .int .i64 0, .int .i64 0, .slice none 0 0] 34
    rw [show (((w).alloc (.cells [.int .i64 (c).step, .int .i64 (c).x, .int .i64 (c).y, .slice A n cc].toArray 34)).alloc (.cells [.int .i64 k].toArray 3)).heap.size = (w).heap.size + 1 + 1 by simp] at h
    rw [hw4]; exact h
  have hg4 : (w).grownBy w4 none := by rw [hw4]; exact (by repeat (first | exact World.grownBy.refl _ _ | assumption | refine gr_alloc ?_ _ | (apply gr_tail; assumption) | refine gr_drewN ?_ _ | refine gr_drew ?_))
  rw [← hw4]
  clear hw4
  obtain ⟨xc4, hxc4⟩ : ∃ x, x = (w).heap.size + 1 + 1 := ⟨_, rfl⟩
  rw [← hxc4] at hbc4 ⊢
  obtain ⟨xb4, hxb4⟩ : ∃ x, x = (w).heap.size + 1 := ⟨_, rfl⟩
  rw [← hxb4] at hbb4 ⊢
  obtain ⟨xa4, hxa4⟩ : ∃ x, x = (w).heap.size := ⟨_, rfl⟩
  rw [← hxa4] at hba4 ⊢
  have hxn4 : xa4 ≠ xb4 ∧ xa4 ≠ xc4 ∧ xb4 ≠ xc4 := by omega
  replace hxa4 : (w).heap.size ≤ xa4 := by omega
  replace hxb4 : (w).heap.size ≤ xb4 := by omega
  replace hxc4 : (w).heap.size ≤ xc4 := by omega
  obtain ⟨⟨a0, -⟩, ⟨a1, -⟩, ⟨a2, -⟩, ⟨a3, -⟩⟩ := box4_c hba4
  obtain ⟨b0, -⟩ := hbb4.c 0 rfl
  go_wp2_with fail
  refine (hGF.out w4 hg4).mono ?_
  rintro e w5 ⟨rfl, hg5⟩
  clear a0 a1 a2 a3 b0 hGF
  obtain ⟨⟨a0, -⟩, ⟨a1, -⟩, ⟨a2, -⟩, ⟨a3, -⟩⟩ := box4_c (hba4.pure hg5)
  go_wp2_with fail
  refine (hGo.out w5 (hg4.t hg5)).mono ?_
  rintro e w6 ⟨g, b, rfl, hG, hg6, hgg, hgb⟩
  have hgw6 := (hg4.t hg5).t hg6
  replace hbb4 := (hbb4.pure hg5).pure hg6
  replace hbc4 := (hbc4.pure hg5).pure hg6
  have hlt5 : w4.heap.size ≤ w5.heap.size := hg5.size
  clear a0 a1 a2 a3 hGo hba4 hg5 hg6
  go_upto_region 5 with fail
  obtain ⟨w7, hw7⟩ : ∃ x, x = (w6).alloc (.cells [.pointer (some ⟨g, 0, none⟩)].toArray 97) := ⟨_, rfl⟩
  have hg7 : (w6).grownBy w7 none := by rw [hw7]; exact gr_alloc (World.grownBy.refl _ _) _
  have hb7 : Box w7 (w6).heap.size 97 [.pointer (some ⟨g, 0, none⟩)] := by rw [hw7]; exact Box.new _ _ _
  have hxs7 := hb7.lt
  rw [← hw7]
  clear hw7
  obtain ⟨x7, hx7⟩ : ∃ x, x = (w6).heap.size := ⟨_, rfl⟩
  rw [← hx7] at hb7 hxs7 ⊢
  have hxl7 : (w6).heap.size ≤ x7 := by omega
  clear hx7
  replace hG := hG.pure hg7
  replace hbb4 := hbb4.pure hg7
  replace hbc4 := hbc4.pure hg7
  have hgw7 := hgw6.t hg7
  have ok := hG.ok
  have hNok : (Grd.none G.step G.x G.y G.wide G.high).Ok := ⟨ok.s, ok.x, ok.y, ok.w, ok.h, by simp [Grd.none]⟩
  have hN := hide (fun W => newGrid_any G.step G.x G.y G.wide G.high W hNok)
  have hcl := hide (fun W (h : w7.grownBy W none) => And.intro (hb7.pure h) ((hG.pure h).cells))
  have hlt := hG.lt
  have hsz6 := hgw6.size
  clear hNok hgw6 hg7
  go_cut [8] (fun s8 wx => ∃ x8 gg gb, s8 = .pointer (some ⟨x8, 0, none⟩) ∧ Box wx x8 97 [.pointer (some ⟨gg, 0, none⟩)] ∧ GridAt wx gg gb (Grd.none G.step G.x G.y G.wide G.high) ∧ w7.grownBy wx none ∧ w7.heap.size ≤ x8 ∧ w7.heap.size ≤ gg ∧ w7.heap.size ≤ gb)
  case first =>
    refine wp_region_tree (fun wx => w7.grownBy wx none) [1, 2, 2, 1, 1, 2, 2, 1, 1, 2, 2, 1, 1, 2, 2, 1, 1, 2, 2, 1, 0, 0, 0] (.bl 0 (.bl 1 (.bl 2 (.bl 3 (.bl 4 (.bl 5 (.bl 6 (.bl 7 (.bl 8 (.bl 9 (.bl 10 (.bl 11 (.bl 12 (.bl 13 (.bl 14 (.bl 15 (.bl 16 (.bl 17 (.bl 18 (.bl 19 (.alt (.ef 20 (.ef 21 (.ef 22 .done))) (.ef 21 (.ef 20 (.ef 22 .done)))))))))))))))))))))))) (by kernel_rfl) (by kernel_rfl) (gr_drew (World.grownBy.refl _ _)) ?_
    obtain ⟨u0, hu0⟩ : ∃ x, x = (w7).drew := ⟨_, rfl⟩
    rw [← hu0]
    have hgu0 : (w7).grownBy u0 none := by rw [hu0]; exact gr_drew (World.grownBy.refl _ _)
    clear hu0
    refine tree_b rfl rfl rfl rfl _ rfl (by simp) (fun K hK => ?_)
    apply Exists.intro
    refine ⟨fun wq hq K' hK' => ?_, ?_⟩
    · obtain ⟨hbq, d0, d1, d2, d3, d4, -⟩ := hcl.out wq hq
      obtain ⟨m0, -⟩ := hbq.c 0 rfl
      go_wp2_with fail
      exact hK'
    go_simp
    refine hK _ ?_
    clear hK K
    refine tree_n rfl rfl _ rfl _ rfl ?_
    try go_simp
    refine tree_p rfl rfl rfl rfl _ rfl (by simp) (fun K hK => ?_)
    apply Exists.intro
    refine ⟨fun wq K' hK' => ?_, ?_⟩
    · go_wp2_with fail
      exact hK'
    go_simp
    refine hK _ ?_
    clear hK K
    refine tree_b rfl rfl rfl rfl _ rfl (by simp) (fun K hK => ?_)
    apply Exists.intro
    refine ⟨fun wq hq K' hK' => ?_, ?_⟩
    · obtain ⟨hbq, d0, d1, d2, d3, d4, -⟩ := hcl.out wq hq
      obtain ⟨m0, -⟩ := hbq.c 0 rfl
      go_wp2_with fail
      exact hK'
    go_simp
    refine hK _ ?_
    clear hK K
    refine tree_b rfl rfl rfl rfl _ rfl (by simp) (fun K hK => ?_)
    apply Exists.intro
    refine ⟨fun wq hq K' hK' => ?_, ?_⟩
    · obtain ⟨hbq, d0, d1, d2, d3, d4, -⟩ := hcl.out wq hq
      obtain ⟨m0, -⟩ := hbq.c 0 rfl
      go_wp2_with fail
      exact hK'
    go_simp
    refine hK _ ?_
    clear hK K
    refine tree_n rfl rfl _ rfl _ rfl ?_
    try go_simp
    refine tree_p rfl rfl rfl rfl _ rfl (by simp) (fun K hK => ?_)
    apply Exists.intro
    refine ⟨fun wq K' hK' => ?_, ?_⟩
    · go_wp2_with fail
      exact hK'
    go_simp
    refine hK _ ?_
    clear hK K
    refine tree_b rfl rfl rfl rfl _ rfl (by simp) (fun K hK => ?_)
    apply Exists.intro
    refine ⟨fun wq hq K' hK' => ?_, ?_⟩
    · obtain ⟨hbq, d0, d1, d2, d3, d4, -⟩ := hcl.out wq hq
      obtain ⟨m0, -⟩ := hbq.c 0 rfl
      go_wp2_with fail
      exact hK'
    go_simp
    refine hK _ ?_
    clear hK K
    refine tree_b rfl rfl rfl rfl _ rfl (by simp) (fun K hK => ?_)
    apply Exists.intro
    refine ⟨fun wq hq K' hK' => ?_, ?_⟩
    · obtain ⟨hbq, d0, d1, d2, d3, d4, -⟩ := hcl.out wq hq
      obtain ⟨m0, -⟩ := hbq.c 0 rfl
      go_wp2_with fail
      exact hK'
    go_simp
    refine hK _ ?_
    clear hK K
    refine tree_n rfl rfl _ rfl _ rfl ?_
    try go_simp
    refine tree_p rfl rfl rfl rfl _ rfl (by simp) (fun K hK => ?_)
    apply Exists.intro
    refine ⟨fun wq K' hK' => ?_, ?_⟩
    · go_wp2_with fail
      exact hK'
    go_simp
    refine hK _ ?_
    clear hK K
    refine tree_b rfl rfl rfl rfl _ rfl (by simp) (fun K hK => ?_)
    apply Exists.intro
    refine ⟨fun wq hq K' hK' => ?_, ?_⟩
    · obtain ⟨hbq, d0, d1, d2, d3, d4, -⟩ := hcl.out wq hq
      obtain ⟨m0, -⟩ := hbq.c 0 rfl
      go_wp2_with fail
      exact hK'
    go_simp
    refine hK _ ?_
    clear hK K
    refine tree_b rfl rfl rfl rfl _ rfl (by simp) (fun K hK => ?_)
    apply Exists.intro
    refine ⟨fun wq hq K' hK' => ?_, ?_⟩
    · obtain ⟨hbq, d0, d1, d2, d3, d4, -⟩ := hcl.out wq hq
      obtain ⟨m0, -⟩ := hbq.c 0 rfl
      go_wp2_with fail
      exact hK'
    go_simp
    refine hK _ ?_
    clear hK K
    refine tree_n rfl rfl _ rfl _ rfl ?_
    try go_simp
    refine tree_p rfl rfl rfl rfl _ rfl (by simp) (fun K hK => ?_)
    apply Exists.intro
    refine ⟨fun wq K' hK' => ?_, ?_⟩
    · go_wp2_with fail
      exact hK'
    go_simp
    refine hK _ ?_
    clear hK K
    refine tree_b rfl rfl rfl rfl _ rfl (by simp) (fun K hK => ?_)
    apply Exists.intro
    refine ⟨fun wq hq K' hK' => ?_, ?_⟩
    · obtain ⟨hbq, d0, d1, d2, d3, d4, -⟩ := hcl.out wq hq
      obtain ⟨m0, -⟩ := hbq.c 0 rfl
      go_wp2_with fail
      exact hK'
    go_simp
    refine hK _ ?_
    clear hK K
    refine tree_b rfl rfl rfl rfl _ rfl (by simp) (fun K hK => ?_)
    apply Exists.intro
    refine ⟨fun wq hq K' hK' => ?_, ?_⟩
    · obtain ⟨hbq, d0, d1, d2, d3, d4, -⟩ := hcl.out wq hq
      obtain ⟨m0, -⟩ := hbq.c 0 rfl
      go_wp2_with fail
      exact hK'
    go_simp
    refine hK _ ?_
    clear hK K
    refine tree_n rfl rfl _ rfl _ rfl ?_
    try go_simp
    refine tree_p rfl rfl rfl rfl _ rfl (by simp) (fun K hK => ?_)
    apply Exists.intro
    refine ⟨fun wq K' hK' => ?_, ?_⟩
    · go_wp2_with fail
      exact hK'
    go_simp
    refine hK _ ?_
    clear hK K
    refine tree_b rfl rfl rfl rfl _ rfl (by simp) (fun K hK => ?_)
    apply Exists.intro
    refine ⟨fun wq hq K' hK' => ?_, ?_⟩
    · obtain ⟨hbq, d0, d1, d2, d3, d4, -⟩ := hcl.out wq hq
      obtain ⟨m0, -⟩ := hbq.c 0 rfl
      go_wp2_with fail
      exact hK'
    go_simp
    refine hK _ ?_
    clear hK K
    refine tree_alt ?_ ?_
    · refine tree_e0 (by kernel_rfl) rfl rfl (fun K hK => ?_)
      go_wp2_with fail
      refine (hN.out u0).mono ?_
      rintro e w20 ⟨gg, gb, rfl, hG20, hg20, hgg2, hgb2⟩
      go_wp2_with fail
      try go_simp
      refine hK _ _ trivial ?_
      clear hK K
      refine tree_e rfl rfl (fun K hK => ?_)
      go_wp2_with fail
      try go_simp
      refine hK _ _ (gr_alloc (gr_trans hgu0 hg20) _) ?_
      clear hK K
      obtain ⟨w21, hw21⟩ : ∃ x, x = (w20).alloc (.cells [.pointer none].toArray 97) := ⟨_, rfl⟩
      have hg21 : (w20).grownBy w21 none := by rw [hw21]; exact gr_alloc (World.grownBy.refl _ _) _
      have hb21 : Box w21 (w20).heap.size 97 [.pointer none] := by rw [hw21]; exact Box.new _ _ _
      rw [← hw21]
      clear hw21
      obtain ⟨x21, hx21⟩ : ∃ x, x = (w20).heap.size := ⟨_, rfl⟩
      rw [← hx21] at hb21 ⊢
      have hxl21 : (w20).heap.size ≤ x21 := by omega
      clear hx21
      refine tree_e0 (by kernel_rfl) rfl rfl (fun K hK => ?_)
      have hb22 := hb21.pure (w' := w21) (World.grownBy.refl _ _)
      obtain ⟨m0, f0⟩ := hb22.c 0 rfl
      have hG22 := hG20.pure (w' := w21) hg21
      have hgw22 := gr_trans hgu0 (gr_trans hg20 hg21)
      go_wp2_with fail
      try go_simp
      refine hK _ _ trivial ?_
      clear hK K
      refine tree_done ?_
      have hne1 : x21 ≠ gg := fun e => by
        have h1 := hG22.bx.1
        rw [← e] at h1
        exact absurd (h1.uniq hb22.1) (by decide)
      have hne2 : x21 ≠ gb := fun e => hb22.ne_own hG22.on (by decide) (by rw [e]; rfl)
      have hle := hgu0.size
      have hle1 := hg20.size
      have hle2 := hg21.size
      have hbz := hb22.set_ 0 (.pointer (some ⟨gg, 0, none⟩)) (by simp)
      have hGz := hG22.gr (gr_set (World.grownBy.refl w21 (some x21)) (p := ⟨x21, 0, none⟩) (.inl rfl) (.pointer (some ⟨gg, 0, none⟩))) (by intro e; injection e with e; exact hne1 e) (by intro e; injection e with e; exact hne2 e)
      have hgz := gr_set hgw22 (p := ⟨x21, 0, none⟩) (.inr (by show w7.heap.size ≤ x21; omega)) (.pointer (some ⟨gg, 0, none⟩))
      generalize (w21).setCell ⟨x21, 0, none⟩ (.pointer (some ⟨gg, 0, none⟩)) = wz at *
      clear m0 f0
      go_wp2_with fail
      go_meet
      exact ⟨x21, gg, gb, rfl, hbz, hGz, hgz, by omega, by omega, by omega⟩
    · refine tree_e rfl rfl (fun K hK => ?_)
      go_wp2_with fail
      try go_simp
      refine hK _ _ (gr_alloc (gr_trans hgu0 (World.grownBy.refl _ _)) _) ?_
      clear hK K
      obtain ⟨w21, hw21⟩ : ∃ x, x = (u0).alloc (.cells [.pointer none].toArray 97) := ⟨_, rfl⟩
      have hg21 : (u0).grownBy w21 none := by rw [hw21]; exact gr_alloc (World.grownBy.refl _ _) _
      have hb21 : Box w21 (u0).heap.size 97 [.pointer none] := by rw [hw21]; exact Box.new _ _ _
      rw [← hw21]
      clear hw21
      obtain ⟨x21, hx21⟩ : ∃ x, x = (u0).heap.size := ⟨_, rfl⟩
      rw [← hx21] at hb21 ⊢
      have hxl21 : (u0).heap.size ≤ x21 := by omega
      clear hx21
      refine tree_e0 (by kernel_rfl) rfl rfl (fun K hK => ?_)
      go_wp2_with fail
      refine (hN.out w21).mono ?_
      rintro e w20 ⟨gg, gb, rfl, hG20, hg20, hgg2, hgb2⟩
      go_wp2_with fail
      try go_simp
      refine hK _ _ trivial ?_
      clear hK K
      refine tree_e0 (by kernel_rfl) rfl rfl (fun K hK => ?_)
      have hb22 := hb21.pure (w' := w20) hg20
      obtain ⟨m0, f0⟩ := hb22.c 0 rfl
      have hG22 := hG20.pure (w' := w20) (World.grownBy.refl _ _)
      have hgw22 := gr_trans hgu0 (gr_trans hg21 hg20)
      go_wp2_with fail
      try go_simp
      refine hK _ _ trivial ?_
      clear hK K
      refine tree_done ?_
      have hne1 : x21 ≠ gg := fun e => by
        have h1 := hG22.bx.1
        rw [← e] at h1
        exact absurd (h1.uniq hb22.1) (by decide)
      have hne2 : x21 ≠ gb := fun e => hb22.ne_own hG22.on (by decide) (by rw [e]; rfl)
      have hle := hgu0.size
      have hle1 := hg20.size
      have hle2 := hg21.size
      have hbz := hb22.set_ 0 (.pointer (some ⟨gg, 0, none⟩)) (by simp)
      have hGz := hG22.gr (gr_set (World.grownBy.refl w20 (some x21)) (p := ⟨x21, 0, none⟩) (.inl rfl) (.pointer (some ⟨gg, 0, none⟩))) (by intro e; injection e with e; exact hne1 e) (by intro e; injection e with e; exact hne2 e)
      have hgz := gr_set hgw22 (p := ⟨x21, 0, none⟩) (.inr (by show w7.heap.size ≤ x21; omega)) (.pointer (some ⟨gg, 0, none⟩))
      generalize (w20).setCell ⟨x21, 0, none⟩ (.pointer (some ⟨gg, 0, none⟩)) = wz at *
      clear m0 f0
      go_wp2_with fail
      go_meet
      exact ⟨x21, gg, gb, rfl, hbz, hGz, hgz, by omega, by omega, by omega⟩
  case rest =>
    obtain ⟨x8, gg, gb, rfl, hb8, hGo, hgc, hx8, hgg2, hgb2⟩ := hcut
    have hwc := hgw7.t hgc
    have hxb4' := hbb4.lt
    have hx7' := hb7.lt
    have hle2 := hgc.size
    have hn8 : gb ≠ x8 := fun e => hb8.ne_own hGo.on (by decide) (by rw [e]; rfl)
    have hE := each_any g b G 96 #[] #[.pointer (some ⟨xb4, 0, none⟩), .pointer (some ⟨x7, 0, none⟩), .pointer (some ⟨x8, 0, none⟩)] (fun j wx => SetI wc gg gb (Grd.none G.step G.x G.y G.wide G.high) (fun x y => G.upto j x y && erX k G.at x y) wx) wc
      (fun j wx hh => hh.grid (hG.pure hgc) (by omega) (by omega))
      (fun j wx hj hv hh => hh.congr fun x y => by rw [Grd.upto_skip ok hj hv])
      (fun j wx wy hh hg => hh.pure hg)
      (fun j wx hj hv hh => by
        have hin := (ok.in_of hj).1
        have hin' := hin
        unfold Grd.In at hin'
        have := ok.x; have := ok.y; have := ok.w; have := ok.h
        exact shrunkClo1_any wc g b G gg gb (Grd.none G.step G.x G.y G.wide G.high) _ _ (G.cx j) (G.cy j) k xb4 x7 x8 wx (hG.pure hgc) hh ((hbb4.pure hgc).c 0 rfl).1 ((hb7.pure hgc).c 0 rfl).1 (hb8.c 0 rfl).1 (by omega) hn8 (by omega) (by omega) (by omega) hk (by omega) (by omega) hin
          (fun x y => by
            rw [Grd.upto_next ok hj hv]
            by_cases he : x = G.cx j ∧ y = G.cy j
            · obtain ⟨rfl, rfl⟩ := he
              simp
            · simp [he]))
      (fun xs wx => run_enter Tryz.func96 (by kernel_rfl) rfl xs wx)
      ((SetI.start hGo).congr fun x y => by simp [Grd.upto_zero])
    replace hE := hide hE
    have hall := hide (Grd.upto_all ok)
    obtain ⟨m0, -⟩ := (hb7.pure hgc).c 0 rfl
    have hbk := hbb4.pure hgc
    have hbr := hbc4.pure hgc
    have hok2 := hide ok
    have hn6 : gb ≠ xb4 := by omega
    have hn7 : gb ≠ xc4 := by have := hbc4.lt; omega
    clear hG hcl hN hb7 hbb4 hbc4 ok
    go_wp2_with fail
    refine hE.out.mono ?_
    rintro e w9 ⟨rfl, O', hO', hsm, hat, hg9⟩
    clear m0 hE
    have hbz9 := hbr.gr hg9 (by intro e; injection e with e; exact hn7 e)
    have hgz9 := gr_new hwc hg9 (show w.heap.size ≤ gb by omega)
    have hc8 := gr_cell hg9 (hb8.c 0 rfl).1 (by intro e; injection e with e; exact hn8 e)
    have hck := gr_cell hg9 (hbk.c 0 rfl).1 (by intro e; injection e with e; exact hn6 e)
    have hst : Hid (O'.step = c.step) := by rw [Hid, hsm.1, ← hGs.out]; rfl
    have hS : Hid (∀ x y, O'.at x y = (onC c x y && erX k (onC c) x y)) := fun x y => by
      have e1 : G.at = onC c := funext fun x => funext fun y => hGat.out x y
      rw [hat, Grd.none_at]
      show (false || (G.upto G.on.length x y && erX k G.at x y)) = _
      rw [hall.out, e1]; rfl
    have hS2 := hide (fun x y => shr_of hk.1 hS.out x y)
    have hCh := hide (chosen_any gg gb O' 98 #[] #[.pointer (some ⟨xb4, 0, none⟩), .pointer (some ⟨x8, 0, none⟩)] (fun x y => erY k O'.at x y) w9 hO'
      (fun xs wx => run_enter Tryz.func98 (by kernel_rfl) rfl xs wx)
      (fun x y wx hv hg => by
        have hin := Grd.at_in hv
        unfold Grd.In at hin
        have := hO'.ok.x; have := hO'.ok.y; have := hO'.ok.w; have := hO'.ok.h
        exact shrunkClo2_any gg gb O' x y k xb4 x8 wx (hO'.pure hg) (hg.k hck) (hg.k hc8) hk (by omega) (by omega)))
    clear hO' hat hg9 hbk hb8 hGo hck hsm hall
    go_wp2_with fail
    refine (hCh.out).mono ?_
    rintro e v9 ⟨c9, er9, A9, cc9, rfl, hC9, hO9, hg9⟩
    have hb9 := (hbz9).pure hg9
    have hgw9 := (hgz9).t hg9
    obtain ⟨⟨d0, f0⟩, ⟨d1, f1⟩, ⟨d2, f2⟩, ⟨d3, f3⟩⟩ := box4_c hb9
    replace hC9 := hide hC9
    obtain ⟨n9, hn9⟩ : ∃ n, n = c9.rows.length := ⟨_, rfl⟩
    rw [← hn9]
    replace hn9 := hide hn9
    go_wp2_with fail
    clear d0 d1 d2 d3 f0 f1 f2 f3
    have hgf := gr_new hgw9 (set4_gr (w := v9) (g := xc4) (.int .i64 c9.step) (.int .i64 c9.x) (.int .i64 c9.y) (.slice A9 n9 cc9)) hxc4
    have hOf := (Own.lower hO9 ((hgz9).size)).ne (set4_gr (w := v9) (g := xc4) (.int .i64 c9.step) (.int .i64 c9.x) (.int .i64 c9.y) (.slice A9 n9 cc9)) (fun x h e => hb9.ne_own hO9 (by decide) (by injection e with e; rw [e]; exact h))
    have hbf := box_set4 hb9 (.int .i64 c9.step) (.int .i64 c9.x) (.int .i64 c9.y) (.slice A9 n9 cc9)
    generalize (((v9.setCell ⟨xc4, 0, none⟩ (.int .i64 c9.step)).setCell ⟨xc4, 1, none⟩ (.int .i64 c9.x)).setCell ⟨xc4, 2, none⟩ (.int .i64 c9.y)).setCell ⟨xc4, 3, none⟩ (.slice A9 n9 cc9) = wf at *
    obtain ⟨⟨d0, f0⟩, ⟨d1, f1⟩, ⟨d2, f2⟩, ⟨d3, f3⟩⟩ := box4_c hbf
    exact bodyPost_ret (v := .tuple #[.agg #[.int .i64 c9.step, .int .i64 c9.x, .int .i64 c9.y, .slice A9 n9 cc9], .int .i64 er9]) (by simp [results, Tryz.results26, go_sem, d0, d1, d2, d3, f0, f1, f2, f3]) rfl ⟨c9, er9, A9, cc9, by rw [hn9.out], (fun h => by rw [← hst.out]; exact IsCells.congr h hS2.out) hC9.out, hOf, hgf⟩

end Go.Proofs.YtgcpegjggakemaaGreatDoor

namespace Go.Proofs.YtgcpegjggakemaaGreatDoor
open Go Go.RowKit Go.Bl

set_option maxHeartbeats 4000000 in
set_option maxRecDepth 100000 in
theorem grown_any (c : Cel) (A : Option Addr) (n cc : Nat) (k : Int) (w : World) (ha : CArg w c A n) (hok : CellsOk c) (hk : 0 ≤ k ∧ k ≤ 20) :
    Calls Tryz.prog 25 #[.agg #[.int .i64 (c).step, .int .i64 (c).x, .int .i64 (c).y, .slice A n cc], .int .i64 k] w fun e w' => CelsOut w w' c.step (groS k (onC c)) e := by
  have hGF := hide (fun W (h : w.grownBy W none) => growFault_ok c A n cc k W (ha.pure h) hok hk)
  have hGo := hide (fun W (h : w.grownBy W none) => gridArg_any c A n cc W (ha.pure h) hok)
  have hbd := hide (gridOf_bd hok)
  obtain ⟨kn, hkn⟩ : ∃ kn : Nat, k = kn := ⟨k.toNat, by omega⟩
  obtain ⟨G, hGe⟩ : ∃ G, G = gridOf c := ⟨_, rfl⟩
  have hGat : Hid (∀ x y, G.at x y = onC c x y) := fun x y => by rw [hGe, gridOf_at hok]
  have hGs : Hid (G.step = c.step) := by rw [Hid, hGe]; rfl
  rw [← hGe] at hGo hbd
  replace hok := hide hok
  replace hkn := hide hkn
  clear hGe ha
  go_enter Tryz.func25, Tryz.ntmps25
  go_upto_region 1 with fail
  obtain ⟨w4, hw4⟩ : ∃ x, x = (((w).alloc (.cells [.int .i64 (c).step, .int .i64 (c).x, .int .i64 (c).y, .slice A n cc].toArray 34)).alloc (.cells [.int .i64 k].toArray 3)).alloc (.cells [.int .i64 0, .int .i64 0, .int .i64 0, .slice none 0 0].toArray 34) := ⟨_, rfl⟩
  have hba4 : Box w4 (w).heap.size 34 [.int .i64 (c).step, .int .i64 (c).x, .int .i64 (c).y, .slice A n cc] := by
    rw [hw4]; exact ((Box.new (w) [.int .i64 (c).step, .int .i64 (c).x, .int .i64 (c).y, .slice A n cc] 34).pure (gr_alloc (World.grownBy.refl _ _) _)).pure (gr_alloc (World.grownBy.refl _ _) _)
  have hbb4 : Box w4 ((w).heap.size + 1) 3 [.int .i64 k] := by
    have h := (Box.new ((w).alloc (.cells [.int .i64 (c).step, .int .i64 (c).x, .int .i64 (c).y, .slice A n cc].toArray 34)) [.int .i64 k] 3).pure (gr_alloc (World.grownBy.refl _ none) (.cells [.int .i64 0, .int .i64 0, .int .i64 0, .slice none 0 0].toArray 34))
    rw [show ((w).alloc (.cells [.int .i64 (c).step, .int .i64 (c).x, .int .i64 (c).y, .slice A n cc].toArray 34)).heap.size = (w).heap.size + 1 by simp] at h
    rw [hw4]; exact h
  have hbc4 : Box w4 ((w).heap.size + 1 + 1) 34 [.int .i64 0, .int .i64 0, .int .i64 0, .slice none 0 0] := by
    have h := Box.new (((w).alloc (.cells [.int .i64 (c).step, .int .i64 (c).x, .int .i64 (c).y, .slice A n cc].toArray 34)).alloc (.cells [.int .i64 k].toArray 3)) [.int .i64 0, .int .i64 0, .int .i64 0, .slice none 0 0] 34
    rw [show (((w).alloc (.cells [.int .i64 (c).step, .int .i64 (c).x, .int .i64 (c).y, .slice A n cc].toArray 34)).alloc (.cells [.int .i64 k].toArray 3)).heap.size = (w).heap.size + 1 + 1 by simp] at h
    rw [hw4]; exact h
  have hg4 : (w).grownBy w4 none := by rw [hw4]; exact (by repeat (first | exact World.grownBy.refl _ _ | assumption | refine gr_alloc ?_ _ | (apply gr_tail; assumption) | refine gr_drewN ?_ _ | refine gr_drew ?_))
  rw [← hw4]
  clear hw4
  obtain ⟨xc4, hxc4⟩ : ∃ x, x = (w).heap.size + 1 + 1 := ⟨_, rfl⟩
  rw [← hxc4] at hbc4 ⊢
  obtain ⟨xb4, hxb4⟩ : ∃ x, x = (w).heap.size + 1 := ⟨_, rfl⟩
  rw [← hxb4] at hbb4 ⊢
  obtain ⟨xa4, hxa4⟩ : ∃ x, x = (w).heap.size := ⟨_, rfl⟩
  rw [← hxa4] at hba4 ⊢
  have hxn4 : xa4 ≠ xb4 ∧ xa4 ≠ xc4 ∧ xb4 ≠ xc4 := by omega
  replace hxa4 : (w).heap.size ≤ xa4 := by omega
  replace hxb4 : (w).heap.size ≤ xb4 := by omega
  replace hxc4 : (w).heap.size ≤ xc4 := by omega
  obtain ⟨⟨a0, -⟩, ⟨a1, -⟩, ⟨a2, -⟩, ⟨a3, -⟩⟩ := box4_c hba4
  obtain ⟨b0, -⟩ := hbb4.c 0 rfl
  go_wp2_with fail
  refine (hGF.out w4 hg4).mono ?_
  rintro e w5 ⟨rfl, hg5⟩
  clear a0 a1 a2 a3 b0 hGF
  obtain ⟨⟨a0, -⟩, ⟨a1, -⟩, ⟨a2, -⟩, ⟨a3, -⟩⟩ := box4_c (hba4.pure hg5)
  go_wp2_with fail
  refine (hGo.out w5 (hg4.t hg5)).mono ?_
  rintro e w6 ⟨g, b, rfl, hG, hg6, hgg, hgb⟩
  have hgw6 := (hg4.t hg5).t hg6
  replace hbb4 := (hbb4.pure hg5).pure hg6
  replace hbc4 := (hbc4.pure hg5).pure hg6
  have hlt5 : w4.heap.size ≤ w5.heap.size := hg5.size
  clear a0 a1 a2 a3 hGo hba4 hg5 hg6
  have ok := hG.ok
  obtain ⟨d0, d1, d2, d3, d4, d5⟩ := hG.cells
  have hall := hide (Grd.upto_all ok)
  rcases hw1 : ((G.wide : Int) == 0) with _ | _
  rotate_left
  · have he : G.wide = 0 := by simpa using hw1
    have hCc := hide (gridCells_any g b G w6 hG)
    have hS : Hid (∀ x y, G.at x y = groS k (onC c) x y) := fun x y => by
      have h0 : ∀ x y, onC c x y = false := fun x y => by rw [← hGat.out, grid_empty he]
      rw [hGat.out, h0]
      exact (diY_none fun x y => diX_none h0).symm
    clear he hall ok hG hbb4
    go_wp2_with fail
    refine (hCc.out).mono ?_
    rintro e v9 ⟨c9, er9, A9, cc9, rfl, hC9, hO9, hg9⟩
    have hb9 := (hbc4).pure hg9
    have hgw9 := (hgw6).t hg9
    obtain ⟨⟨d0, f0⟩, ⟨d1, f1⟩, ⟨d2, f2⟩, ⟨d3, f3⟩⟩ := box4_c hb9
    replace hC9 := hide hC9
    obtain ⟨n9, hn9⟩ : ∃ n, n = c9.rows.length := ⟨_, rfl⟩
    rw [← hn9]
    replace hn9 := hide hn9
    go_wp2_with fail
    clear d0 d1 d2 d3 f0 f1 f2 f3
    have hgf := gr_new hgw9 (set4_gr (w := v9) (g := xc4) (.int .i64 c9.step) (.int .i64 c9.x) (.int .i64 c9.y) (.slice A9 n9 cc9)) hxc4
    have hOf := (Own.lower hO9 ((hgw6).size)).ne (set4_gr (w := v9) (g := xc4) (.int .i64 c9.step) (.int .i64 c9.x) (.int .i64 c9.y) (.slice A9 n9 cc9)) (fun x h e => hb9.ne_own hO9 (by decide) (by injection e with e; rw [e]; exact h))
    have hbf := box_set4 hb9 (.int .i64 c9.step) (.int .i64 c9.x) (.int .i64 c9.y) (.slice A9 n9 cc9)
    generalize (((v9.setCell ⟨xc4, 0, none⟩ (.int .i64 c9.step)).setCell ⟨xc4, 1, none⟩ (.int .i64 c9.x)).setCell ⟨xc4, 2, none⟩ (.int .i64 c9.y)).setCell ⟨xc4, 3, none⟩ (.slice A9 n9 cc9) = wf at *
    obtain ⟨⟨d0, f0⟩, ⟨d1, f1⟩, ⟨d2, f2⟩, ⟨d3, f3⟩⟩ := box4_c hbf
    exact bodyPost_ret (v := .tuple #[.agg #[.int .i64 c9.step, .int .i64 c9.x, .int .i64 c9.y, .slice A9 n9 cc9], .int .i64 er9]) (by simp [results, Tryz.results25, go_sem, d0, d1, d2, d3, f0, f1, f2, f3]) rfl ⟨c9, er9, A9, cc9, by rw [hn9.out], (fun h => by rw [← hGs.out]; exact IsCells.congr h hS.out) hC9.out, hOf, hgf⟩
  have hbd' := hbd.out
  have hNok1 : (Grd.none G.step (G.x - k) G.y (G.wide + 2 * kn) G.high).Ok := ⟨ok.s, by show _ ≤ G.x - k ∧ G.x - k ≤ _; omega, ok.y, by show G.wide + 2 * kn ≤ 1000; have := hkn.out; omega, ok.h, by simp [Grd.none]⟩
  have hNok2 : (Grd.none G.step (G.x - k) (G.y - k) (G.wide + 2 * kn) (G.high + 2 * kn)).Ok := ⟨ok.s, by show _ ≤ G.x - k ∧ G.x - k ≤ _; omega, by show _ ≤ G.y - k ∧ G.y - k ≤ _; omega, by show G.wide + 2 * kn ≤ 1000; have := hkn.out; omega, by show G.high + 2 * kn ≤ 1000; have := hkn.out; omega, by simp [Grd.none]⟩
  have hW1 : Hid ((G.wide : Int) + 2 * k = ((G.wide + 2 * kn : Nat) : Int)) := by have := hkn.out; show _ = _; omega
  have hW2 : Hid ((G.high : Int) + 2 * k = ((G.high + 2 * kn : Nat) : Int)) := by have := hkn.out; show _ = _; omega
  have hcl := hide (fun W (h : w6.grownBy W none) => (hG.pure h).cells)
  have hcn := hide (fun W (h : w6.grownBy W none) => h.k (hbb4.c 0 rfl).1)
  have hlt := hG.lt
  have hsz6 := hgw6.size
  have hN := hide (fun W => newGrid_any G.step (G.x - k) G.y (G.wide + 2 * kn) G.high W hNok1)
  have hN2 := hide (fun W => newGrid_any G.step (G.x - k) (G.y - k) (G.wide + 2 * kn) (G.high + 2 * kn) W hNok2)
  replace hNok1 := hide hNok1
  replace hNok2 := hide hNok2
  have hyx := ok.y
  have hhx := ok.h
  have hwx := ok.w
  clear d0 d1 d2 d4 d5 hbd
  go_upto_region 7 with fail
  clear d3 hw1
  go_cut [8] (fun s8 wx => ∃ x8 gg gb, s8 = .pointer (some ⟨x8, 0, none⟩) ∧ Box wx x8 97 [.pointer (some ⟨gg, 0, none⟩)] ∧ GridAt wx gg gb (Grd.none G.step (G.x - k) G.y (G.wide + 2 * kn) G.high) ∧ w6.grownBy wx none ∧ w6.heap.size ≤ x8 ∧ w6.heap.size ≤ gg ∧ w6.heap.size ≤ gb)
  case first =>
    refine wp_region_tree (fun wx => w6.grownBy wx none) [2, 2, 2, 1, 2, 2, 2, 1, 1, 2, 2, 2, 2, 1, 2, 2, 2, 1, 1, 2, 2, 2, 2, 2, 1, 0, 0, 0] (.bl 0 (.bl 1 (.bl 2 (.bl 3 (.bl 4 (.bl 5 (.bl 6 (.bl 7 (.bl 8 (.bl 9 (.bl 10 (.bl 11 (.bl 12 (.bl 13 (.bl 14 (.bl 15 (.bl 16 (.bl 17 (.bl 18 (.bl 19 (.bl 20 (.bl 21 (.bl 22 (.bl 23 (.bl 24 (.alt (.ef 25 (.ef 26 (.ef 27 .done))) (.ef 26 (.ef 25 (.ef 27 .done))))))))))))))))))))))))))))) (by kernel_rfl) (by kernel_rfl) (gr_drew (World.grownBy.refl _ _)) ?_
    obtain ⟨u0, hu0⟩ : ∃ x, x = (w6).drew := ⟨_, rfl⟩
    rw [← hu0]
    have hgu0 : (w6).grownBy u0 none := by rw [hu0]; exact gr_drew (World.grownBy.refl _ _)
    clear hu0
    refine tree_p rfl rfl rfl rfl _ rfl (by simp) (fun K hK => ?_)
    apply Exists.intro
    refine ⟨fun wq K' hK' => ?_, ?_⟩
    · go_wp2_with fail
      exact hK'
    go_simp
    refine hK _ ?_
    clear hK K
    refine tree_n rfl rfl _ rfl _ rfl ?_
    try go_simp
    refine tree_p rfl rfl rfl rfl _ rfl (by simp) (fun K hK => ?_)
    apply Exists.intro
    refine ⟨fun wq K' hK' => ?_, ?_⟩
    · go_wp2_with fail
      exact hK'
    go_simp
    refine hK _ ?_
    clear hK K
    refine tree_b rfl rfl rfl rfl _ rfl (by simp) (fun K hK => ?_)
    apply Exists.intro
    refine ⟨fun wq hq K' hK' => ?_, ?_⟩
    · obtain ⟨d0, d1, d2, d3, d4, -⟩ := hcl.out wq hq
      have m0 := hcn.out wq hq
      go_wp2_with fail
      exact hK'
    go_simp
    refine hK _ ?_
    clear hK K
    refine tree_p rfl rfl rfl rfl _ rfl (by simp) (fun K hK => ?_)
    apply Exists.intro
    refine ⟨fun wq K' hK' => ?_, ?_⟩
    · go_wp2_with fail
      exact hK'
    go_simp
    refine hK _ ?_
    clear hK K
    refine tree_n rfl rfl _ rfl _ rfl ?_
    try go_simp
    refine tree_p rfl rfl rfl rfl _ rfl (by simp) (fun K hK => ?_)
    apply Exists.intro
    refine ⟨fun wq K' hK' => ?_, ?_⟩
    · go_wp2_with fail
      exact hK'
    go_simp
    refine hK _ ?_
    clear hK K
    refine tree_b rfl rfl rfl rfl _ rfl (by simp) (fun K hK => ?_)
    apply Exists.intro
    refine ⟨fun wq hq K' hK' => ?_, ?_⟩
    · obtain ⟨d0, d1, d2, d3, d4, -⟩ := hcl.out wq hq
      have m0 := hcn.out wq hq
      go_wp2_with fail
      exact hK'
    go_simp
    refine hK _ ?_
    clear hK K
    refine tree_b rfl rfl rfl rfl _ rfl (by simp) (fun K hK => ?_)
    apply Exists.intro
    refine ⟨fun wq hq K' hK' => ?_, ?_⟩
    · obtain ⟨d0, d1, d2, d3, d4, -⟩ := hcl.out wq hq
      have m0 := hcn.out wq hq
      go_wp2_with fail
      exact hK'
    go_simp
    refine hK _ ?_
    clear hK K
    refine tree_p rfl rfl rfl rfl _ rfl (by simp) (fun K hK => ?_)
    apply Exists.intro
    refine ⟨fun wq K' hK' => ?_, ?_⟩
    · go_wp2_with fail
      exact hK'
    go_simp
    refine hK _ ?_
    clear hK K
    refine tree_p rfl rfl rfl rfl _ rfl (by simp) (fun K hK => ?_)
    apply Exists.intro
    refine ⟨fun wq K' hK' => ?_, ?_⟩
    · go_wp2_with fail
      exact hK'
    go_simp
    refine hK _ ?_
    clear hK K
    refine tree_n rfl rfl _ rfl _ rfl ?_
    try go_simp
    refine tree_p rfl rfl rfl rfl _ rfl (by simp) (fun K hK => ?_)
    apply Exists.intro
    refine ⟨fun wq K' hK' => ?_, ?_⟩
    · go_wp2_with fail
      exact hK'
    go_simp
    refine hK _ ?_
    clear hK K
    refine tree_b rfl rfl rfl rfl _ rfl (by simp) (fun K hK => ?_)
    apply Exists.intro
    refine ⟨fun wq hq K' hK' => ?_, ?_⟩
    · obtain ⟨d0, d1, d2, d3, d4, -⟩ := hcl.out wq hq
      have m0 := hcn.out wq hq
      go_wp2_with fail
      exact hK'
    go_simp
    refine hK _ ?_
    clear hK K
    refine tree_p rfl rfl rfl rfl _ rfl (by simp) (fun K hK => ?_)
    apply Exists.intro
    refine ⟨fun wq K' hK' => ?_, ?_⟩
    · go_wp2_with fail
      exact hK'
    go_simp
    refine hK _ ?_
    clear hK K
    refine tree_n rfl rfl _ rfl _ rfl ?_
    try go_simp
    refine tree_p rfl rfl rfl rfl _ rfl (by simp) (fun K hK => ?_)
    apply Exists.intro
    refine ⟨fun wq K' hK' => ?_, ?_⟩
    · go_wp2_with fail
      exact hK'
    go_simp
    refine hK _ ?_
    clear hK K
    refine tree_b rfl rfl rfl rfl _ rfl (by simp) (fun K hK => ?_)
    apply Exists.intro
    refine ⟨fun wq hq K' hK' => ?_, ?_⟩
    · obtain ⟨d0, d1, d2, d3, d4, -⟩ := hcl.out wq hq
      have m0 := hcn.out wq hq
      go_wp2_with fail
      exact hK'
    go_simp
    refine hK _ ?_
    clear hK K
    refine tree_b rfl rfl rfl rfl _ rfl (by simp) (fun K hK => ?_)
    apply Exists.intro
    refine ⟨fun wq hq K' hK' => ?_, ?_⟩
    · obtain ⟨d0, d1, d2, d3, d4, -⟩ := hcl.out wq hq
      have m0 := hcn.out wq hq
      go_wp2_with fail
      exact hK'
    go_simp
    refine hK _ ?_
    clear hK K
    refine tree_p rfl rfl rfl rfl _ rfl (by simp) (fun K hK => ?_)
    apply Exists.intro
    refine ⟨fun wq K' hK' => ?_, ?_⟩
    · go_wp2_with fail
      exact hK'
    go_simp
    refine hK _ ?_
    clear hK K
    refine tree_p rfl rfl rfl rfl _ rfl (by simp) (fun K hK => ?_)
    apply Exists.intro
    refine ⟨fun wq K' hK' => ?_, ?_⟩
    · go_wp2_with fail
      exact hK'
    go_simp
    refine hK _ ?_
    clear hK K
    refine tree_p rfl rfl rfl rfl _ rfl (by simp) (fun K hK => ?_)
    apply Exists.intro
    refine ⟨fun wq K' hK' => ?_, ?_⟩
    · go_wp2_with fail
      exact hK'
    go_simp
    refine hK _ ?_
    clear hK K
    refine tree_n rfl rfl _ rfl _ rfl ?_
    try go_simp
    refine tree_p rfl rfl rfl rfl _ rfl (by simp) (fun K hK => ?_)
    apply Exists.intro
    refine ⟨fun wq K' hK' => ?_, ?_⟩
    · go_wp2_with fail
      exact hK'
    go_simp
    refine hK _ ?_
    clear hK K
    refine tree_b rfl rfl rfl rfl _ rfl (by simp) (fun K hK => ?_)
    apply Exists.intro
    refine ⟨fun wq hq K' hK' => ?_, ?_⟩
    · obtain ⟨d0, d1, d2, d3, d4, -⟩ := hcl.out wq hq
      have m0 := hcn.out wq hq
      go_wp2_with fail
      exact hK'
    go_simp
    refine hK _ ?_
    clear hK K
    refine tree_alt ?_ ?_
    · refine tree_e0 (by kernel_rfl) rfl rfl (fun K hK => ?_)
      go_wp2_with fail
      rw [hW1.out]
      refine (hN.out u0).mono ?_
      rintro e w25 ⟨gg, gb, rfl, hG20, hg25, hgg2, hgb2⟩
      go_wp2_with fail
      try go_simp
      refine hK _ _ trivial ?_
      clear hK K
      refine tree_e rfl rfl (fun K hK => ?_)
      go_wp2_with fail
      try go_simp
      refine hK _ _ (gr_alloc (gr_trans hgu0 hg25) _) ?_
      clear hK K
      obtain ⟨w26, hw26⟩ : ∃ x, x = (w25).alloc (.cells [.pointer none].toArray 97) := ⟨_, rfl⟩
      have hg26 : (w25).grownBy w26 none := by rw [hw26]; exact gr_alloc (World.grownBy.refl _ _) _
      have hb26 : Box w26 (w25).heap.size 97 [.pointer none] := by rw [hw26]; exact Box.new _ _ _
      rw [← hw26]
      clear hw26
      obtain ⟨x26, hx26⟩ : ∃ x, x = (w25).heap.size := ⟨_, rfl⟩
      rw [← hx26] at hb26 ⊢
      have hxl26 : (w25).heap.size ≤ x26 := by omega
      clear hx26
      refine tree_e0 (by kernel_rfl) rfl rfl (fun K hK => ?_)
      have hb22 := hb26.pure (w' := w26) (World.grownBy.refl _ _)
      obtain ⟨m0, f0⟩ := hb22.c 0 rfl
      have hG22 := hG20.pure (w' := w26) hg26
      have hgw22 := gr_trans hgu0 (gr_trans hg25 hg26)
      go_wp2_with fail
      try go_simp
      refine hK _ _ trivial ?_
      clear hK K
      refine tree_done ?_
      have hne1 : x26 ≠ gg := fun e => by
        have h1 := hG22.bx.1
        rw [← e] at h1
        exact absurd (h1.uniq hb22.1) (by decide)
      have hne2 : x26 ≠ gb := fun e => hb22.ne_own hG22.on (by decide) (by rw [e]; rfl)
      have hle := hgu0.size
      have hle1 := hg25.size
      have hle2 := hg26.size
      have hbz := hb22.set_ 0 (.pointer (some ⟨gg, 0, none⟩)) (by simp)
      have hGz := hG22.gr (gr_set (World.grownBy.refl w26 (some x26)) (p := ⟨x26, 0, none⟩) (.inl rfl) (.pointer (some ⟨gg, 0, none⟩))) (by intro e; injection e with e; exact hne1 e) (by intro e; injection e with e; exact hne2 e)
      have hgz := gr_set hgw22 (p := ⟨x26, 0, none⟩) (.inr (by show w6.heap.size ≤ x26; omega)) (.pointer (some ⟨gg, 0, none⟩))
      generalize (w26).setCell ⟨x26, 0, none⟩ (.pointer (some ⟨gg, 0, none⟩)) = wz at *
      clear m0 f0
      go_wp2_with fail
      go_meet
      exact ⟨x26, gg, gb, rfl, hbz, hGz, hgz, by omega, by omega, by omega⟩
    · refine tree_e rfl rfl (fun K hK => ?_)
      go_wp2_with fail
      try go_simp
      refine hK _ _ (gr_alloc (gr_trans hgu0 (World.grownBy.refl _ _)) _) ?_
      clear hK K
      obtain ⟨w26, hw26⟩ : ∃ x, x = (u0).alloc (.cells [.pointer none].toArray 97) := ⟨_, rfl⟩
      have hg26 : (u0).grownBy w26 none := by rw [hw26]; exact gr_alloc (World.grownBy.refl _ _) _
      have hb26 : Box w26 (u0).heap.size 97 [.pointer none] := by rw [hw26]; exact Box.new _ _ _
      rw [← hw26]
      clear hw26
      obtain ⟨x26, hx26⟩ : ∃ x, x = (u0).heap.size := ⟨_, rfl⟩
      rw [← hx26] at hb26 ⊢
      have hxl26 : (u0).heap.size ≤ x26 := by omega
      clear hx26
      refine tree_e0 (by kernel_rfl) rfl rfl (fun K hK => ?_)
      go_wp2_with fail
      rw [hW1.out]
      refine (hN.out w26).mono ?_
      rintro e w25 ⟨gg, gb, rfl, hG20, hg25, hgg2, hgb2⟩
      go_wp2_with fail
      try go_simp
      refine hK _ _ trivial ?_
      clear hK K
      refine tree_e0 (by kernel_rfl) rfl rfl (fun K hK => ?_)
      have hb22 := hb26.pure (w' := w25) hg25
      obtain ⟨m0, f0⟩ := hb22.c 0 rfl
      have hG22 := hG20.pure (w' := w25) (World.grownBy.refl _ _)
      have hgw22 := gr_trans hgu0 (gr_trans hg26 hg25)
      go_wp2_with fail
      try go_simp
      refine hK _ _ trivial ?_
      clear hK K
      refine tree_done ?_
      have hne1 : x26 ≠ gg := fun e => by
        have h1 := hG22.bx.1
        rw [← e] at h1
        exact absurd (h1.uniq hb22.1) (by decide)
      have hne2 : x26 ≠ gb := fun e => hb22.ne_own hG22.on (by decide) (by rw [e]; rfl)
      have hle := hgu0.size
      have hle1 := hg25.size
      have hle2 := hg26.size
      have hbz := hb22.set_ 0 (.pointer (some ⟨gg, 0, none⟩)) (by simp)
      have hGz := hG22.gr (gr_set (World.grownBy.refl w25 (some x26)) (p := ⟨x26, 0, none⟩) (.inl rfl) (.pointer (some ⟨gg, 0, none⟩))) (by intro e; injection e with e; exact hne1 e) (by intro e; injection e with e; exact hne2 e)
      have hgz := gr_set hgw22 (p := ⟨x26, 0, none⟩) (.inr (by show w6.heap.size ≤ x26; omega)) (.pointer (some ⟨gg, 0, none⟩))
      generalize (w25).setCell ⟨x26, 0, none⟩ (.pointer (some ⟨gg, 0, none⟩)) = wz at *
      clear m0 f0
      go_wp2_with fail
      go_meet
      exact ⟨x26, gg, gb, rfl, hbz, hGz, hgz, by omega, by omega, by omega⟩
  case rest =>
    obtain ⟨x8, gg, gb, rfl, hb8, hGo, hgc, hx8, hgg2, hgb2⟩ := hcut
    have hwc := hgw6.t hgc
    have hxb4' := hbb4.lt
    have hxc4' := hbc4.lt
    have hn8 : gb ≠ x8 := fun e => hb8.ne_own hGo.on (by decide) (by rw [e]; rfl)
    have hE := each_any g b G 93 #[] #[.pointer (some ⟨xb4, 0, none⟩), .pointer (some ⟨x8, 0, none⟩)] (fun j wx => SetI wc gg gb (Grd.none G.step (G.x - k) G.y (G.wide + 2 * kn) G.high) (diX k (G.upto j)) wx) wc
      (fun j wx hh => hh.grid (hG.pure hgc) (by omega) (by omega))
      (fun j wx hj hv hh => hh.congr fun x y => by rw [show G.upto (j + 1) = G.upto j from funext fun x => funext fun y => Grd.upto_skip ok hj hv x y])
      (fun j wx wy hh hg => hh.pure hg)
      (fun j wx hj hv hh => by
        have hin := (ok.in_of hj).1
        unfold Grd.In at hin
        refine (grownClo1_any wc gg gb (Grd.none G.step (G.x - k) G.y (G.wide + 2 * kn) G.high) _ (G.cx j) (G.cy j) k xb4 x8 wx hh ((hbb4.pure hgc).c 0 rfl).1 (hb8.c 0 rfl).1 (by omega) hn8 hk (by omega) (fun i h1 h2 => by
          show G.x - k ≤ G.cx j + i ∧ G.cx j + i < G.x - k + ((G.wide + 2 * kn : Nat) : Int) ∧ G.y ≤ G.cy j ∧ G.cy j < G.y + (G.high : Int)
          have := hkn.out
          omega)).mono ?_
        rintro e wy ⟨rfl, hh'⟩
        exact ⟨rfl, hh'.congr fun x y => spX_end (Grd.upto_next ok hj hv)⟩)
      (fun xs wx => run_enter Tryz.func93 (by kernel_rfl) rfl xs wx)
      ((SetI.start hGo).congr fun x y => (diX_none (fun x y => G.upto_zero x y)).symm)
    replace hE := hide hE
    have hbr := hbc4.pure hgc
    have hn6 : gb ≠ xb4 := by omega
    have hn7 : gb ≠ xc4 := by omega
    have hG1 := hG.pure hgc
    have hbk := hbb4.pure hgc
    clear hG hcl hcn hN hbb4 hbc4
    go_wp2_with fail
    refine hE.out.mono ?_
    rintro e w9 ⟨rfl, O', hO', hsm, hat, hg9⟩
    clear hE
    have hbr9 := hbr.gr hg9 (by intro e; injection e with e; exact hn7 e)
    have hbk9 := hbk.gr hg9 (by intro e; injection e with e; exact hn6 e)
    have hb89 := hb8.gr hg9 (by intro e; injection e with e; exact hn8 e)
    have hG9 := hG1.gr hg9 (by intro e; injection e with e; omega) (by intro e; injection e with e; omega)
    have hwz9 := gr_new hwc hg9 (show w.heap.size ≤ gb by omega)
    have hS1 : Hid (∀ x y, O'.at x y = diX k (onC c) x y) := fun x y => by
      rw [hat, Grd.none_at, show G.upto G.on.length = onC c from funext fun x => funext fun y => by rw [hall.out, hGat.out]]; rfl
    have hOi : Hid (∀ x y, O'.In x y → (G.x - k ≤ x ∧ x < G.x - k + (G.wide + 2 * kn : Nat)) ∧ (G.y ≤ y ∧ y < G.y + G.high)) := fun x y h => by
      have := (hsm.in_ x y).1 h
      unfold Grd.In at this
      exact ⟨⟨this.1, this.2.1⟩, this.2.2⟩
    have hszc := hwc.size
    have hsz9 := hg9.size
    have hltb := hb8.lt
    have hlto := hGo.lt
    have hcl := hide (fun W (h : w9.grownBy W none) => (hG9.pure h).cells)
    have hcn := hide (fun W (h : w9.grownBy W none) => h.k (hbk9.c 0 rfl).1)
    have hN := hN2
    clear hN2 hg9 hat hsm hbr hbk hb8 hG1 hGo
    go_upto_region 9 with fail
    go_cut [9] (fun s9 wx => ∃ x9 hh hb, s9 = .pointer (some ⟨x9, 0, none⟩) ∧ Box wx x9 97 [.pointer (some ⟨hh, 0, none⟩)] ∧ GridAt wx hh hb (Grd.none G.step (G.x - k) (G.y - k) (G.wide + 2 * kn) (G.high + 2 * kn)) ∧ w9.grownBy wx none ∧ w9.heap.size ≤ x9 ∧ w9.heap.size ≤ hh ∧ w9.heap.size ≤ hb)
    case first =>
      refine wp_region_tree (fun wx => w9.grownBy wx none) [2, 2, 2, 1, 2, 2, 2, 1, 1, 2, 2, 2, 2, 1, 1, 2, 2, 2, 2, 1, 1, 2, 2, 2, 2, 2, 1, 1, 2, 2, 0, 0, 0] (.bl 0 (.bl 1 (.bl 2 (.bl 3 (.bl 4 (.bl 5 (.bl 6 (.bl 7 (.bl 8 (.bl 9 (.bl 10 (.bl 11 (.bl 12 (.bl 13 (.bl 14 (.bl 15 (.bl 16 (.bl 17 (.bl 18 (.bl 19 (.bl 20 (.bl 21 (.bl 22 (.bl 23 (.bl 24 (.bl 25 (.bl 26 (.bl 27 (.bl 28 (.bl 29 (.alt (.ef 30 (.ef 31 (.ef 32 .done))) (.ef 31 (.ef 30 (.ef 32 .done)))))))))))))))))))))))))))))))))) (by kernel_rfl) (by kernel_rfl) (gr_drew (World.grownBy.refl _ _)) ?_
      obtain ⟨u3, hu3⟩ : ∃ x, x = (w9).drew := ⟨_, rfl⟩
      rw [← hu3]
      have hgu3 : (w9).grownBy u3 none := by rw [hu3]; exact gr_drew (World.grownBy.refl _ _)
      clear hu3
      refine tree_p rfl rfl rfl rfl _ rfl (by simp) (fun K hK => ?_)
      apply Exists.intro
      refine ⟨fun wq K' hK' => ?_, ?_⟩
      · go_wp2_with fail
        exact hK'
      go_simp
      refine hK _ ?_
      clear hK K
      refine tree_n rfl rfl _ rfl _ rfl ?_
      try go_simp
      refine tree_p rfl rfl rfl rfl _ rfl (by simp) (fun K hK => ?_)
      apply Exists.intro
      refine ⟨fun wq K' hK' => ?_, ?_⟩
      · go_wp2_with fail
        exact hK'
      go_simp
      refine hK _ ?_
      clear hK K
      refine tree_b rfl rfl rfl rfl _ rfl (by simp) (fun K hK => ?_)
      apply Exists.intro
      refine ⟨fun wq hq K' hK' => ?_, ?_⟩
      · obtain ⟨d0, d1, d2, d3, d4, -⟩ := hcl.out wq hq
        have m0 := hcn.out wq hq
        go_wp2_with fail
        exact hK'
      go_simp
      refine hK _ ?_
      clear hK K
      refine tree_p rfl rfl rfl rfl _ rfl (by simp) (fun K hK => ?_)
      apply Exists.intro
      refine ⟨fun wq K' hK' => ?_, ?_⟩
      · go_wp2_with fail
        exact hK'
      go_simp
      refine hK _ ?_
      clear hK K
      refine tree_n rfl rfl _ rfl _ rfl ?_
      try go_simp
      refine tree_p rfl rfl rfl rfl _ rfl (by simp) (fun K hK => ?_)
      apply Exists.intro
      refine ⟨fun wq K' hK' => ?_, ?_⟩
      · go_wp2_with fail
        exact hK'
      go_simp
      refine hK _ ?_
      clear hK K
      refine tree_b rfl rfl rfl rfl _ rfl (by simp) (fun K hK => ?_)
      apply Exists.intro
      refine ⟨fun wq hq K' hK' => ?_, ?_⟩
      · obtain ⟨d0, d1, d2, d3, d4, -⟩ := hcl.out wq hq
        have m0 := hcn.out wq hq
        go_wp2_with fail
        exact hK'
      go_simp
      refine hK _ ?_
      clear hK K
      refine tree_b rfl rfl rfl rfl _ rfl (by simp) (fun K hK => ?_)
      apply Exists.intro
      refine ⟨fun wq hq K' hK' => ?_, ?_⟩
      · obtain ⟨d0, d1, d2, d3, d4, -⟩ := hcl.out wq hq
        have m0 := hcn.out wq hq
        go_wp2_with fail
        exact hK'
      go_simp
      refine hK _ ?_
      clear hK K
      refine tree_p rfl rfl rfl rfl _ rfl (by simp) (fun K hK => ?_)
      apply Exists.intro
      refine ⟨fun wq K' hK' => ?_, ?_⟩
      · go_wp2_with fail
        exact hK'
      go_simp
      refine hK _ ?_
      clear hK K
      refine tree_p rfl rfl rfl rfl _ rfl (by simp) (fun K hK => ?_)
      apply Exists.intro
      refine ⟨fun wq K' hK' => ?_, ?_⟩
      · go_wp2_with fail
        exact hK'
      go_simp
      refine hK _ ?_
      clear hK K
      refine tree_n rfl rfl _ rfl _ rfl ?_
      try go_simp
      refine tree_p rfl rfl rfl rfl _ rfl (by simp) (fun K hK => ?_)
      apply Exists.intro
      refine ⟨fun wq K' hK' => ?_, ?_⟩
      · go_wp2_with fail
        exact hK'
      go_simp
      refine hK _ ?_
      clear hK K
      refine tree_b rfl rfl rfl rfl _ rfl (by simp) (fun K hK => ?_)
      apply Exists.intro
      refine ⟨fun wq hq K' hK' => ?_, ?_⟩
      · obtain ⟨d0, d1, d2, d3, d4, -⟩ := hcl.out wq hq
        have m0 := hcn.out wq hq
        go_wp2_with fail
        exact hK'
      go_simp
      refine hK _ ?_
      clear hK K
      refine tree_b rfl rfl rfl rfl _ rfl (by simp) (fun K hK => ?_)
      apply Exists.intro
      refine ⟨fun wq hq K' hK' => ?_, ?_⟩
      · obtain ⟨d0, d1, d2, d3, d4, -⟩ := hcl.out wq hq
        have m0 := hcn.out wq hq
        go_wp2_with fail
        exact hK'
      go_simp
      refine hK _ ?_
      clear hK K
      refine tree_p rfl rfl rfl rfl _ rfl (by simp) (fun K hK => ?_)
      apply Exists.intro
      refine ⟨fun wq K' hK' => ?_, ?_⟩
      · go_wp2_with fail
        exact hK'
      go_simp
      refine hK _ ?_
      clear hK K
      refine tree_p rfl rfl rfl rfl _ rfl (by simp) (fun K hK => ?_)
      apply Exists.intro
      refine ⟨fun wq K' hK' => ?_, ?_⟩
      · go_wp2_with fail
        exact hK'
      go_simp
      refine hK _ ?_
      clear hK K
      refine tree_n rfl rfl _ rfl _ rfl ?_
      try go_simp
      refine tree_p rfl rfl rfl rfl _ rfl (by simp) (fun K hK => ?_)
      apply Exists.intro
      refine ⟨fun wq K' hK' => ?_, ?_⟩
      · go_wp2_with fail
        exact hK'
      go_simp
      refine hK _ ?_
      clear hK K
      refine tree_b rfl rfl rfl rfl _ rfl (by simp) (fun K hK => ?_)
      apply Exists.intro
      refine ⟨fun wq hq K' hK' => ?_, ?_⟩
      · obtain ⟨d0, d1, d2, d3, d4, -⟩ := hcl.out wq hq
        have m0 := hcn.out wq hq
        go_wp2_with fail
        exact hK'
      go_simp
      refine hK _ ?_
      clear hK K
      refine tree_b rfl rfl rfl rfl _ rfl (by simp) (fun K hK => ?_)
      apply Exists.intro
      refine ⟨fun wq hq K' hK' => ?_, ?_⟩
      · obtain ⟨d0, d1, d2, d3, d4, -⟩ := hcl.out wq hq
        have m0 := hcn.out wq hq
        go_wp2_with fail
        exact hK'
      go_simp
      refine hK _ ?_
      clear hK K
      refine tree_p rfl rfl rfl rfl _ rfl (by simp) (fun K hK => ?_)
      apply Exists.intro
      refine ⟨fun wq K' hK' => ?_, ?_⟩
      · go_wp2_with fail
        exact hK'
      go_simp
      refine hK _ ?_
      clear hK K
      refine tree_p rfl rfl rfl rfl _ rfl (by simp) (fun K hK => ?_)
      apply Exists.intro
      refine ⟨fun wq K' hK' => ?_, ?_⟩
      · go_wp2_with fail
        exact hK'
      go_simp
      refine hK _ ?_
      clear hK K
      refine tree_p rfl rfl rfl rfl _ rfl (by simp) (fun K hK => ?_)
      apply Exists.intro
      refine ⟨fun wq K' hK' => ?_, ?_⟩
      · go_wp2_with fail
        exact hK'
      go_simp
      refine hK _ ?_
      clear hK K
      refine tree_n rfl rfl _ rfl _ rfl ?_
      try go_simp
      refine tree_p rfl rfl rfl rfl _ rfl (by simp) (fun K hK => ?_)
      apply Exists.intro
      refine ⟨fun wq K' hK' => ?_, ?_⟩
      · go_wp2_with fail
        exact hK'
      go_simp
      refine hK _ ?_
      clear hK K
      refine tree_b rfl rfl rfl rfl _ rfl (by simp) (fun K hK => ?_)
      apply Exists.intro
      refine ⟨fun wq hq K' hK' => ?_, ?_⟩
      · obtain ⟨d0, d1, d2, d3, d4, -⟩ := hcl.out wq hq
        have m0 := hcn.out wq hq
        go_wp2_with fail
        exact hK'
      go_simp
      refine hK _ ?_
      clear hK K
      refine tree_b rfl rfl rfl rfl _ rfl (by simp) (fun K hK => ?_)
      apply Exists.intro
      refine ⟨fun wq hq K' hK' => ?_, ?_⟩
      · obtain ⟨d0, d1, d2, d3, d4, -⟩ := hcl.out wq hq
        have m0 := hcn.out wq hq
        go_wp2_with fail
        exact hK'
      go_simp
      refine hK _ ?_
      clear hK K
      refine tree_p rfl rfl rfl rfl _ rfl (by simp) (fun K hK => ?_)
      apply Exists.intro
      refine ⟨fun wq K' hK' => ?_, ?_⟩
      · go_wp2_with fail
        exact hK'
      go_simp
      refine hK _ ?_
      clear hK K
      refine tree_p rfl rfl rfl rfl _ rfl (by simp) (fun K hK => ?_)
      apply Exists.intro
      refine ⟨fun wq K' hK' => ?_, ?_⟩
      · go_wp2_with fail
        exact hK'
      go_simp
      refine hK _ ?_
      clear hK K
      refine tree_alt ?_ ?_
      · refine tree_e0 (by kernel_rfl) rfl rfl (fun K hK => ?_)
        go_wp2_with fail
        rw [hW1.out, hW2.out]
        refine (hN.out u3).mono ?_
        rintro e w30 ⟨hh, hb, rfl, hG20, hg30, hgg2, hgb2⟩
        go_wp2_with fail
        try go_simp
        refine hK _ _ trivial ?_
        clear hK K
        refine tree_e rfl rfl (fun K hK => ?_)
        go_wp2_with fail
        try go_simp
        refine hK _ _ (gr_alloc (gr_trans hgu3 hg30) _) ?_
        clear hK K
        obtain ⟨w31, hw31⟩ : ∃ x, x = (w30).alloc (.cells [.pointer none].toArray 97) := ⟨_, rfl⟩
        have hg31 : (w30).grownBy w31 none := by rw [hw31]; exact gr_alloc (World.grownBy.refl _ _) _
        have hb31 : Box w31 (w30).heap.size 97 [.pointer none] := by rw [hw31]; exact Box.new _ _ _
        rw [← hw31]
        clear hw31
        obtain ⟨x31, hx31⟩ : ∃ x, x = (w30).heap.size := ⟨_, rfl⟩
        rw [← hx31] at hb31 ⊢
        have hxl31 : (w30).heap.size ≤ x31 := by omega
        clear hx31
        refine tree_e0 (by kernel_rfl) rfl rfl (fun K hK => ?_)
        have hb22 := hb31.pure (w' := w31) (World.grownBy.refl _ _)
        obtain ⟨m0, f0⟩ := hb22.c 0 rfl
        have hG22 := hG20.pure (w' := w31) hg31
        have hgw22 := gr_trans hgu3 (gr_trans hg30 hg31)
        go_wp2_with fail
        try go_simp
        refine hK _ _ trivial ?_
        clear hK K
        refine tree_done ?_
        have hne1 : x31 ≠ hh := fun e => by
          have h1 := hG22.bx.1
          rw [← e] at h1
          exact absurd (h1.uniq hb22.1) (by decide)
        have hne2 : x31 ≠ hb := fun e => hb22.ne_own hG22.on (by decide) (by rw [e]; rfl)
        have hle := hgu3.size
        have hle1 := hg30.size
        have hle2 := hg31.size
        have hbz := hb22.set_ 0 (.pointer (some ⟨hh, 0, none⟩)) (by simp)
        have hGz := hG22.gr (gr_set (World.grownBy.refl w31 (some x31)) (p := ⟨x31, 0, none⟩) (.inl rfl) (.pointer (some ⟨hh, 0, none⟩))) (by intro e; injection e with e; exact hne1 e) (by intro e; injection e with e; exact hne2 e)
        have hgz := gr_set hgw22 (p := ⟨x31, 0, none⟩) (.inr (by show w9.heap.size ≤ x31; omega)) (.pointer (some ⟨hh, 0, none⟩))
        generalize (w31).setCell ⟨x31, 0, none⟩ (.pointer (some ⟨hh, 0, none⟩)) = wz at *
        clear m0 f0
        go_wp2_with fail
        go_meet
        exact ⟨x31, hh, hb, rfl, hbz, hGz, hgz, by omega, by omega, by omega⟩
      · refine tree_e rfl rfl (fun K hK => ?_)
        go_wp2_with fail
        try go_simp
        refine hK _ _ (gr_alloc (gr_trans hgu3 (World.grownBy.refl _ _)) _) ?_
        clear hK K
        obtain ⟨w31, hw31⟩ : ∃ x, x = (u3).alloc (.cells [.pointer none].toArray 97) := ⟨_, rfl⟩
        have hg31 : (u3).grownBy w31 none := by rw [hw31]; exact gr_alloc (World.grownBy.refl _ _) _
        have hb31 : Box w31 (u3).heap.size 97 [.pointer none] := by rw [hw31]; exact Box.new _ _ _
        rw [← hw31]
        clear hw31
        obtain ⟨x31, hx31⟩ : ∃ x, x = (u3).heap.size := ⟨_, rfl⟩
        rw [← hx31] at hb31 ⊢
        have hxl31 : (u3).heap.size ≤ x31 := by omega
        clear hx31
        refine tree_e0 (by kernel_rfl) rfl rfl (fun K hK => ?_)
        go_wp2_with fail
        rw [hW1.out, hW2.out]
        refine (hN.out w31).mono ?_
        rintro e w30 ⟨hh, hb, rfl, hG20, hg30, hgg2, hgb2⟩
        go_wp2_with fail
        try go_simp
        refine hK _ _ trivial ?_
        clear hK K
        refine tree_e0 (by kernel_rfl) rfl rfl (fun K hK => ?_)
        have hb22 := hb31.pure (w' := w30) hg30
        obtain ⟨m0, f0⟩ := hb22.c 0 rfl
        have hG22 := hG20.pure (w' := w30) (World.grownBy.refl _ _)
        have hgw22 := gr_trans hgu3 (gr_trans hg31 hg30)
        go_wp2_with fail
        try go_simp
        refine hK _ _ trivial ?_
        clear hK K
        refine tree_done ?_
        have hne1 : x31 ≠ hh := fun e => by
          have h1 := hG22.bx.1
          rw [← e] at h1
          exact absurd (h1.uniq hb22.1) (by decide)
        have hne2 : x31 ≠ hb := fun e => hb22.ne_own hG22.on (by decide) (by rw [e]; rfl)
        have hle := hgu3.size
        have hle1 := hg30.size
        have hle2 := hg31.size
        have hbz := hb22.set_ 0 (.pointer (some ⟨hh, 0, none⟩)) (by simp)
        have hGz := hG22.gr (gr_set (World.grownBy.refl w30 (some x31)) (p := ⟨x31, 0, none⟩) (.inl rfl) (.pointer (some ⟨hh, 0, none⟩))) (by intro e; injection e with e; exact hne1 e) (by intro e; injection e with e; exact hne2 e)
        have hgz := gr_set hgw22 (p := ⟨x31, 0, none⟩) (.inr (by show w9.heap.size ≤ x31; omega)) (.pointer (some ⟨hh, 0, none⟩))
        generalize (w30).setCell ⟨x31, 0, none⟩ (.pointer (some ⟨hh, 0, none⟩)) = wz at *
        clear m0 f0
        go_wp2_with fail
        go_meet
        exact ⟨x31, hh, hb, rfl, hbz, hGz, hgz, by omega, by omega, by omega⟩
    case rest =>
      obtain ⟨x9, hh, hb, rfl, hb9x, hHo, hgc9, hx9, hhh2, hhb2⟩ := hcut
      have hwcd := hwz9.t hgc9
      have hn9 : hb ≠ x9 := fun e => hb9x.ne_own hHo.on (by decide) (by rw [e]; rfl)
      have okO := hO'.ok
      have hlt' := hO'.lt
      have hbk9' := hbk9.lt
      have hbr9' := hbr9.lt
      have hb89' := hb89.lt
      have hE := each_any gg gb O' 95 #[] #[.pointer (some ⟨xb4, 0, none⟩), .pointer (some ⟨x9, 0, none⟩)] (fun j wx => SetI wc hh hb (Grd.none G.step (G.x - k) (G.y - k) (G.wide + 2 * kn) (G.high + 2 * kn)) (diY k (O'.upto j)) wx) wc
        (fun j wx h => h.grid (hO'.pure hgc9) (by omega) (by omega))
        (fun j wx hj hv h => h.congr fun x y => by rw [show O'.upto (j + 1) = O'.upto j from funext fun x => funext fun y => Grd.upto_skip okO hj hv x y])
        (fun j wx wy h hg => h.pure hg)
        (fun j wx hj hv h => by
          have hin := hOi.out _ _ (okO.in_of hj).1
          refine (grownClo2_any wc hh hb (Grd.none G.step (G.x - k) (G.y - k) (G.wide + 2 * kn) (G.high + 2 * kn)) _ (O'.cx j) (O'.cy j) k xb4 x9 wx h ((hbk9.pure hgc9).c 0 rfl).1 (hb9x.c 0 rfl).1 (by omega) hn9 hk (by omega) (fun i h1 h2 => by
            show G.x - k ≤ O'.cx j ∧ O'.cx j < G.x - k + ((G.wide + 2 * kn : Nat) : Int) ∧ G.y - k ≤ O'.cy j + i ∧ O'.cy j + i < G.y - k + ((G.high + 2 * kn : Nat) : Int)
            have := hkn.out
            omega)).mono ?_
          rintro e wy ⟨rfl, hh'⟩
          exact ⟨rfl, hh'.congr fun x y => spY_end (Grd.upto_next okO hj hv)⟩)
        (fun xs wx => run_enter Tryz.func95 (by kernel_rfl) rfl xs wx)
        ((SetI.start hHo).congr fun x y => (diY_none (fun x y => O'.upto_zero x y)).symm)
      replace hE := hide hE
      have hallO := hide (Grd.upto_all okO)
      obtain ⟨m0, -⟩ := (hb89.pure hgc9).c 0 rfl
      have hbrd := hbr9.pure hgc9
      have hnr : hb ≠ xc4 := by omega
      clear hcl hcn hN hbk9 hbr9 hb89 hG9 hO' okO
      go_wp2_with fail
      refine hE.out.mono ?_
      rintro e wv ⟨rfl, P', hP', hsmP, hatP, hgv⟩
      clear hE m0
      have hbz9 := hbrd.gr hgv (by intro e; injection e with e; exact hnr e)
      have hc9 := gr_cell hgv (hb9x.c 0 rfl).1 (by intro e; injection e with e; exact hn9 e)
      have hgz9 := gr_new hwcd hgv (show w.heap.size ≤ hb by omega)
      have hst : Hid (P'.step = c.step) := by rw [Hid, hsmP.1, ← hGs.out]; rfl
      have hS2 : Hid (∀ x y, P'.at x y = groS k (onC c) x y) := fun x y => by
        rw [hatP, Grd.none_at, show O'.upto O'.on.length = diX k (onC c) from funext fun x => funext fun y => by rw [hallO.out, hS1.out]]; rfl
      have hCc := hide (gridCells_any hh hb P' wv hP')
      clear hP' hsmP hatP hgv hbrd hb9x hHo hallO
      go_wp2_with fail
      refine (hCc.out).mono ?_
      rintro e v9 ⟨c9, er9, A9, cc9, rfl, hC9, hO9, hg9⟩
      have hb9 := (hbz9).pure hg9
      have hgw9 := (hgz9).t hg9
      obtain ⟨⟨d0, f0⟩, ⟨d1, f1⟩, ⟨d2, f2⟩, ⟨d3, f3⟩⟩ := box4_c hb9
      replace hC9 := hide hC9
      obtain ⟨n9, hn9⟩ : ∃ n, n = c9.rows.length := ⟨_, rfl⟩
      rw [← hn9]
      replace hn9 := hide hn9
      go_wp2_with fail
      clear d0 d1 d2 d3 f0 f1 f2 f3
      have hgf := gr_new hgw9 (set4_gr (w := v9) (g := xc4) (.int .i64 c9.step) (.int .i64 c9.x) (.int .i64 c9.y) (.slice A9 n9 cc9)) hxc4
      have hOf := (Own.lower hO9 ((hgz9).size)).ne (set4_gr (w := v9) (g := xc4) (.int .i64 c9.step) (.int .i64 c9.x) (.int .i64 c9.y) (.slice A9 n9 cc9)) (fun x h e => hb9.ne_own hO9 (by decide) (by injection e with e; rw [e]; exact h))
      have hbf := box_set4 hb9 (.int .i64 c9.step) (.int .i64 c9.x) (.int .i64 c9.y) (.slice A9 n9 cc9)
      generalize (((v9.setCell ⟨xc4, 0, none⟩ (.int .i64 c9.step)).setCell ⟨xc4, 1, none⟩ (.int .i64 c9.x)).setCell ⟨xc4, 2, none⟩ (.int .i64 c9.y)).setCell ⟨xc4, 3, none⟩ (.slice A9 n9 cc9) = wf at *
      obtain ⟨⟨d0, f0⟩, ⟨d1, f1⟩, ⟨d2, f2⟩, ⟨d3, f3⟩⟩ := box4_c hbf
      exact bodyPost_ret (v := .tuple #[.agg #[.int .i64 c9.step, .int .i64 c9.x, .int .i64 c9.y, .slice A9 n9 cc9], .int .i64 er9]) (by simp [results, Tryz.results25, go_sem, d0, d1, d2, d3, f0, f1, f2, f3]) rfl ⟨c9, er9, A9, cc9, by rw [hn9.out], (fun h => by rw [← hst.out]; exact IsCells.congr h hS2.out) hC9.out, hOf, hgf⟩

end Go.Proofs.YtgcpegjggakemaaGreatDoor

namespace Go.Bl
open Go

def growF (c : Cel) (k : Int) : Int := orL [cellsF c, spanF k 0 20]

theorem growF_zero {c : Cel} {k : Int} : growF c k = 0 ↔ CellsOk c ∧ 0 ≤ k ∧ k ≤ 20 := by
  rw [← cells_ok]
  unfold growF orL orL orL spanF outB
  by_cases h1 : cellsF c = 0 <;> by_cases h2 : k < 0 <;> by_cases h3 : 20 < k <;> simp [h1, h2, h3] <;> omega

end Go.Bl
namespace Go.Proofs.YtgcpegjggakemaaGreatDoor
open Go Go.RowKit Go.Bl

theorem outsideR_any (n a b : Int) (w : World) : Calls Tryz.prog 56 #[.int .i64 n, .int .i64 a, .int .i64 b] w fun e w' => e = .returned (.bool (outB n a b)) ∧ w.grownBy w' none :=
  (outside_any n a b w).mono fun e w' h => ⟨h.1, by rw [← h.2]; exact World.grownBy.refl _ _⟩

theorem growFault_all (c : Cel) (A : Option Addr) (n cc : Nat) (k : Int) (w : World) (ha : CArg w c A n) :
    Calls Tryz.prog 92 #[.agg #[.int .i64 (c).step, .int .i64 (c).x, .int .i64 (c).y, .slice A n cc], .int .i64 k] w fun e w' => e = .returned (.int .i64 (growF c k)) ∧ w.grownBy w' none := by
  have hCh := hide (fun W (h : w.grownBy W none) => checkArg_any c A n cc W (ha.pure h))
  have hgf : Hid (growF c k = if cellsF c = 0 then (if outB k 0 20 then 1 else 0) else cellsF c) := by
    unfold growF orL orL orL spanF
    by_cases h1 : cellsF c = 0 <;> cases h2 : outB k 0 20 <;> simp [Hid, h1]
  clear ha
  generalize growF c k = GF at *
  generalize cellsF c = F at *
  go_enter Tryz.func92, Tryz.ntmps92
  go_upto_region 1 with fail
  obtain ⟨w0, hw0⟩ : ∃ x, x = (w).alloc (.cells [.int .i64 (c).step, .int .i64 (c).x, .int .i64 (c).y, .slice A n cc].toArray 34) := ⟨_, rfl⟩
  have hg0 : (w).grownBy w0 none := by rw [hw0]; exact gr_alloc (World.grownBy.refl _ _) _
  have hb0 : Box w0 (w).heap.size 34 [.int .i64 (c).step, .int .i64 (c).x, .int .i64 (c).y, .slice A n cc] := by rw [hw0]; exact Box.new _ _ _
  have hxs0 := hb0.lt
  rw [← hw0]
  clear hw0
  obtain ⟨x0, hx0⟩ : ∃ x, x = (w).heap.size := ⟨_, rfl⟩
  rw [← hx0] at hb0 hxs0 ⊢
  have hxl0 : (w).heap.size ≤ x0 := by omega
  clear hx0
  obtain ⟨⟨a0, -⟩, ⟨a1, -⟩, ⟨a2, -⟩, ⟨a3, -⟩⟩ := box4_c hb0
  go_wp2_with fail
  refine (hCh.out w0 hg0).mono ?_
  rintro e w1 ⟨rfl, hg1⟩
  clear a0 a1 a2 a3 hCh
  by_cases h0 : F = 0
  · subst h0
    have hg2 : Hid (GF = if outB k 0 20 then 1 else 0) := by have := hgf.out; rw [if_pos rfl] at this; exact this
    have hO := hide fun W => outsideR_any k 0 20 W
    generalize outB k 0 20 = v at *
    clear hgf
    go_wp2_with fail
    refine (hO.out w1).mono ?_
    rintro e w2 ⟨rfl, hg3⟩
    have hgz := (hg0.t hg1).t hg3
    clear hO hg3
    cases v
    · have hz : Hid ((0 : Int) = GF) := by rw [Hid, hg2.out]; rfl
      go_wp2_with fail
      go_ret
      exact ⟨ret_int hz.out, hgz⟩
    · have hz : Hid ((1 : Int) = GF) := by rw [Hid, hg2.out]; rfl
      go_wp2_with fail
      go_ret
      exact ⟨ret_int hz.out, hgz⟩
  · have hz : Hid (F = GF) := by have := hgf.out; rw [if_neg h0] at this; exact this.symm
    have hb : (F != 0) = true := by simp [h0]
    clear hgf h0
    go_wp2_with fail
    go_ret
    exact ⟨ret_int hz.out, hg0.t hg1⟩

set_option maxHeartbeats 2000000 in
set_option maxRecDepth 100000 in
theorem grown_all (c : Cel) (A : Option Addr) (n cc : Nat) (k : Int) (w : World) (ha : CArg w c A n) :
    Calls Tryz.prog 25 #[.agg #[.int .i64 (c).step, .int .i64 (c).x, .int .i64 (c).y, .slice A n cc], .int .i64 k] w fun e w' => CelsOutF w w' (growF c k) c.step (groS k (onC c)) e := by
  by_cases h0 : growF c k = 0
  · obtain ⟨hok, hk⟩ := growF_zero.1 h0
    refine (grown_any c A n cc k w ha hok hk).mono ?_
    rintro e w' ⟨c9, er, A9, cc9, rfl, hI, hO, hg⟩
    exact ⟨c9, er, A9, cc9, rfl, .inr ⟨h0, hI⟩, hO, hg⟩
  · have hF := hide (growFault_all c A n cc k)
    have hq : (growF c k != 0) = true := by simpa using h0
    have hR : Hid (ResC (growF c k) c.step (groS k (onC c)) ⟨0, 0, 0, []⟩ (growF c k)) := .inl ⟨h0, rfl, rfl⟩
    have hFw := hide fun W (h : w.grownBy W none) => hF.out W (ha.pure h)
    obtain ⟨F, hFe⟩ : ∃ F, F = growF c k := ⟨_, rfl⟩
    rw [← hFe] at hq hR hFw ⊢
    generalize groS k (onC c) = T at *
    clear hF h0 hFe ha
    go_enter Tryz.func25, Tryz.ntmps25
    go_upto_region 1 with fail
    obtain ⟨w4, hw4⟩ : ∃ x, x = (((w).alloc (.cells [.int .i64 (c).step, .int .i64 (c).x, .int .i64 (c).y, .slice A n cc].toArray 34)).alloc (.cells [.int .i64 k].toArray 3)).alloc (.cells [.int .i64 0, .int .i64 0, .int .i64 0, .slice none 0 0].toArray 34) := ⟨_, rfl⟩
    have hba4 : Box w4 (w).heap.size 34 [.int .i64 (c).step, .int .i64 (c).x, .int .i64 (c).y, .slice A n cc] := by
      rw [hw4]; exact ((Box.new (w) [.int .i64 (c).step, .int .i64 (c).x, .int .i64 (c).y, .slice A n cc] 34).pure (gr_alloc (World.grownBy.refl _ _) _)).pure (gr_alloc (World.grownBy.refl _ _) _)
    have hbb4 : Box w4 ((w).heap.size + 1) 3 [.int .i64 k] := by
      have h := (Box.new ((w).alloc (.cells [.int .i64 (c).step, .int .i64 (c).x, .int .i64 (c).y, .slice A n cc].toArray 34)) [.int .i64 k] 3).pure (gr_alloc (World.grownBy.refl _ none) (.cells [.int .i64 0, .int .i64 0, .int .i64 0, .slice none 0 0].toArray 34))
      rw [show ((w).alloc (.cells [.int .i64 (c).step, .int .i64 (c).x, .int .i64 (c).y, .slice A n cc].toArray 34)).heap.size = (w).heap.size + 1 by simp] at h
      rw [hw4]; exact h
    have hbc4 : Box w4 ((w).heap.size + 1 + 1) 34 [.int .i64 0, .int .i64 0, .int .i64 0, .slice none 0 0] := by
      have h := Box.new (((w).alloc (.cells [.int .i64 (c).step, .int .i64 (c).x, .int .i64 (c).y, .slice A n cc].toArray 34)).alloc (.cells [.int .i64 k].toArray 3)) [.int .i64 0, .int .i64 0, .int .i64 0, .slice none 0 0] 34
      rw [show (((w).alloc (.cells [.int .i64 (c).step, .int .i64 (c).x, .int .i64 (c).y, .slice A n cc].toArray 34)).alloc (.cells [.int .i64 k].toArray 3)).heap.size = (w).heap.size + 1 + 1 by simp] at h
      rw [hw4]; exact h
    have hg4 : (w).grownBy w4 none := by rw [hw4]; exact (by repeat (first | exact World.grownBy.refl _ _ | assumption | refine gr_alloc ?_ _ | (apply gr_tail; assumption) | refine gr_drewN ?_ _ | refine gr_drew ?_))
    rw [← hw4]
    clear hw4
    obtain ⟨xc4, hxc4⟩ : ∃ x, x = (w).heap.size + 1 + 1 := ⟨_, rfl⟩
    rw [← hxc4] at hbc4 ⊢
    obtain ⟨xb4, hxb4⟩ : ∃ x, x = (w).heap.size + 1 := ⟨_, rfl⟩
    rw [← hxb4] at hbb4 ⊢
    obtain ⟨xa4, hxa4⟩ : ∃ x, x = (w).heap.size := ⟨_, rfl⟩
    rw [← hxa4] at hba4 ⊢
    have hxn4 : xa4 ≠ xb4 ∧ xa4 ≠ xc4 ∧ xb4 ≠ xc4 := by omega
    replace hxa4 : (w).heap.size ≤ xa4 := by omega
    replace hxb4 : (w).heap.size ≤ xb4 := by omega
    replace hxc4 : (w).heap.size ≤ xc4 := by omega
    obtain ⟨⟨a0, -⟩, ⟨a1, -⟩, ⟨a2, -⟩, ⟨a3, -⟩⟩ := box4_c hba4
    obtain ⟨b0, -⟩ := hbb4.c 0 rfl
    go_wp2_with fail
    refine (hFw.out w4 hg4).mono ?_
    rintro e w5 ⟨rfl, hg5⟩
    have hgw := hg4.t hg5
    replace hbc4 := hbc4.pure hg5
    clear a0 a1 a2 a3 b0 hFw
    obtain ⟨⟨d0, f0⟩, ⟨d1, f1⟩, ⟨d2, f2⟩, ⟨d3, f3⟩⟩ := box4_c hbc4
    go_wp2_with fail
    clear d0 d1 d2 d3 f0 f1 f2 f3
    have hgf := gr_new hgw (set4_gr (w := w5) (g := xc4) (.int .i64 0) (.int .i64 0) (.int .i64 0) (.slice none 0 0)) hxc4
    have hbf := box_set4 hbc4 (.int .i64 0) (.int .i64 0) (.int .i64 0) (.slice none 0 0)
    generalize (((w5.setCell ⟨xc4, 0, none⟩ (.int .i64 0)).setCell ⟨xc4, 1, none⟩ (.int .i64 0)).setCell ⟨xc4, 2, none⟩ (.int .i64 0)).setCell ⟨xc4, 3, none⟩ (.slice none 0 0) = wf at *
    obtain ⟨⟨d0, f0⟩, ⟨d1, f1⟩, ⟨d2, f2⟩, ⟨d3, f3⟩⟩ := box4_c hbf
    exact bodyPost_ret (v := .tuple #[.agg #[.int .i64 0, .int .i64 0, .int .i64 0, .slice none 0 0], .int .i64 F]) (by simp [results, Tryz.results25, go_sem, d0, d1, d2, d3, f0, f1, f2, f3]) rfl ⟨⟨0, 0, 0, []⟩, F, none, 0, rfl, hR.out, Own.nil _ _ _, hgf⟩

set_option maxHeartbeats 2000000 in
set_option maxRecDepth 100000 in
theorem shrunk_all (c : Cel) (A : Option Addr) (n cc : Nat) (k : Int) (w : World) (ha : CArg w c A n) :
    Calls Tryz.prog 26 #[.agg #[.int .i64 (c).step, .int .i64 (c).x, .int .i64 (c).y, .slice A n cc], .int .i64 k] w fun e w' => CelsOutF w w' (growF c k) c.step (shrS k (onC c)) e := by
  by_cases h0 : growF c k = 0
  · obtain ⟨hok, hk⟩ := growF_zero.1 h0
    refine (shrunk_any c A n cc k w ha hok hk).mono ?_
    rintro e w' ⟨c9, er, A9, cc9, rfl, hI, hO, hg⟩
    exact ⟨c9, er, A9, cc9, rfl, .inr ⟨h0, hI⟩, hO, hg⟩
  · have hF := hide (growFault_all c A n cc k)
    have hq : (growF c k != 0) = true := by simpa using h0
    have hR : Hid (ResC (growF c k) c.step (shrS k (onC c)) ⟨0, 0, 0, []⟩ (growF c k)) := .inl ⟨h0, rfl, rfl⟩
    have hFw := hide fun W (h : w.grownBy W none) => hF.out W (ha.pure h)
    obtain ⟨F, hFe⟩ : ∃ F, F = growF c k := ⟨_, rfl⟩
    rw [← hFe] at hq hR hFw ⊢
    generalize shrS k (onC c) = T at *
    clear hF h0 hFe ha
    go_enter Tryz.func26, Tryz.ntmps26
    go_upto_region 1 with fail
    obtain ⟨w4, hw4⟩ : ∃ x, x = (((w).alloc (.cells [.int .i64 (c).step, .int .i64 (c).x, .int .i64 (c).y, .slice A n cc].toArray 34)).alloc (.cells [.int .i64 k].toArray 3)).alloc (.cells [.int .i64 0, .int .i64 0, .int .i64 0, .slice none 0 0].toArray 34) := ⟨_, rfl⟩
    have hba4 : Box w4 (w).heap.size 34 [.int .i64 (c).step, .int .i64 (c).x, .int .i64 (c).y, .slice A n cc] := by
      rw [hw4]; exact ((Box.new (w) [.int .i64 (c).step, .int .i64 (c).x, .int .i64 (c).y, .slice A n cc] 34).pure (gr_alloc (World.grownBy.refl _ _) _)).pure (gr_alloc (World.grownBy.refl _ _) _)
    have hbb4 : Box w4 ((w).heap.size + 1) 3 [.int .i64 k] := by
      have h := (Box.new ((w).alloc (.cells [.int .i64 (c).step, .int .i64 (c).x, .int .i64 (c).y, .slice A n cc].toArray 34)) [.int .i64 k] 3).pure (gr_alloc (World.grownBy.refl _ none) (.cells [.int .i64 0, .int .i64 0, .int .i64 0, .slice none 0 0].toArray 34))
      rw [show ((w).alloc (.cells [.int .i64 (c).step, .int .i64 (c).x, .int .i64 (c).y, .slice A n cc].toArray 34)).heap.size = (w).heap.size + 1 by simp] at h
      rw [hw4]; exact h
    have hbc4 : Box w4 ((w).heap.size + 1 + 1) 34 [.int .i64 0, .int .i64 0, .int .i64 0, .slice none 0 0] := by
      have h := Box.new (((w).alloc (.cells [.int .i64 (c).step, .int .i64 (c).x, .int .i64 (c).y, .slice A n cc].toArray 34)).alloc (.cells [.int .i64 k].toArray 3)) [.int .i64 0, .int .i64 0, .int .i64 0, .slice none 0 0] 34
      rw [show (((w).alloc (.cells [.int .i64 (c).step, .int .i64 (c).x, .int .i64 (c).y, .slice A n cc].toArray 34)).alloc (.cells [.int .i64 k].toArray 3)).heap.size = (w).heap.size + 1 + 1 by simp] at h
      rw [hw4]; exact h
    have hg4 : (w).grownBy w4 none := by rw [hw4]; exact (by repeat (first | exact World.grownBy.refl _ _ | assumption | refine gr_alloc ?_ _ | (apply gr_tail; assumption) | refine gr_drewN ?_ _ | refine gr_drew ?_))
    rw [← hw4]
    clear hw4
    obtain ⟨xc4, hxc4⟩ : ∃ x, x = (w).heap.size + 1 + 1 := ⟨_, rfl⟩
    rw [← hxc4] at hbc4 ⊢
    obtain ⟨xb4, hxb4⟩ : ∃ x, x = (w).heap.size + 1 := ⟨_, rfl⟩
    rw [← hxb4] at hbb4 ⊢
    obtain ⟨xa4, hxa4⟩ : ∃ x, x = (w).heap.size := ⟨_, rfl⟩
    rw [← hxa4] at hba4 ⊢
    have hxn4 : xa4 ≠ xb4 ∧ xa4 ≠ xc4 ∧ xb4 ≠ xc4 := by omega
    replace hxa4 : (w).heap.size ≤ xa4 := by omega
    replace hxb4 : (w).heap.size ≤ xb4 := by omega
    replace hxc4 : (w).heap.size ≤ xc4 := by omega
    obtain ⟨⟨a0, -⟩, ⟨a1, -⟩, ⟨a2, -⟩, ⟨a3, -⟩⟩ := box4_c hba4
    obtain ⟨b0, -⟩ := hbb4.c 0 rfl
    go_wp2_with fail
    refine (hFw.out w4 hg4).mono ?_
    rintro e w5 ⟨rfl, hg5⟩
    have hgw := hg4.t hg5
    replace hbc4 := hbc4.pure hg5
    clear a0 a1 a2 a3 b0 hFw
    obtain ⟨⟨d0, f0⟩, ⟨d1, f1⟩, ⟨d2, f2⟩, ⟨d3, f3⟩⟩ := box4_c hbc4
    go_wp2_with fail
    clear d0 d1 d2 d3 f0 f1 f2 f3
    have hgf := gr_new hgw (set4_gr (w := w5) (g := xc4) (.int .i64 0) (.int .i64 0) (.int .i64 0) (.slice none 0 0)) hxc4
    have hbf := box_set4 hbc4 (.int .i64 0) (.int .i64 0) (.int .i64 0) (.slice none 0 0)
    generalize (((w5.setCell ⟨xc4, 0, none⟩ (.int .i64 0)).setCell ⟨xc4, 1, none⟩ (.int .i64 0)).setCell ⟨xc4, 2, none⟩ (.int .i64 0)).setCell ⟨xc4, 3, none⟩ (.slice none 0 0) = wf at *
    obtain ⟨⟨d0, f0⟩, ⟨d1, f1⟩, ⟨d2, f2⟩, ⟨d3, f3⟩⟩ := box4_c hbf
    exact bodyPost_ret (v := .tuple #[.agg #[.int .i64 0, .int .i64 0, .int .i64 0, .slice none 0 0], .int .i64 F]) (by simp [results, Tryz.results26, go_sem, d0, d1, d2, d3, f0, f1, f2, f3]) rfl ⟨⟨0, 0, 0, []⟩, F, none, 0, rfl, hR.out, Own.nil _ _ _, hgf⟩

end Go.Proofs.YtgcpegjggakemaaGreatDoor
