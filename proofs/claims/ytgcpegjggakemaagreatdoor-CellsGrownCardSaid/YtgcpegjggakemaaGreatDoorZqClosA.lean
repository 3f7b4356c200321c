/- Contracts of functions that this seat's laws reach, each: what one call returns and what it leaves in memory; no condition beyond each theorem's own hypotheses. -/
import Derived.Test.YtgcpegjggakemaaGreatDoorZqPartsB
import Derived.Test.YtgcpegjggakemaaGreatDoorZqClosData
import Derived.Test.YtgcpegjggakemaaGreatDoorZqCelN
import Derived.Deep.DeepCutAuto
set_option linter.unusedVariables false
set_option linter.unusedSimpArgs false
namespace Go.Bl
open Go

theorem nb9_get (p : Pt) {m : Nat} (hm : m < 9) : ∃ h : m < (nb9 p).length, (nb9 p)[m] = ⟨p.x + ((m % 3 : Nat) - 1 : Int), p.y + ((m / 3 : Nat) - 1 : Int)⟩ := by
  have h : m < (nb9 p).length := by simp [nb9]; exact hm
  exact ⟨h, by simp [nb9]⟩

theorem gridOf_bdC {c : Cel} (h : CellsOk c) : (-2000000 ≤ (gridOf c).x ∧ (gridOf c).x ≤ 2000000) ∧ (-2000000 ≤ (gridOf c).y ∧ (gridOf c).y ≤ 2000000) ∧ (gridOf c).wide ≤ 200 ∧ (gridOf c).high ≤ 200 := by
  have hs := step_pos h.step
  have hx : -2000000 ≤ c.x ∧ c.x ≤ 2000000 := by
    by_cases hr : c.rows.length = 0
    · have := (h.nil hr).1; omega
    · have := h.x hr; simp [outB] at this; omega
  have hy : -2000000 ≤ c.y ∧ c.y ≤ 2000000 := by
    by_cases hr : c.rows.length = 0
    · have := (h.nil hr).2; omega
    · have := h.y hr; simp [outB] at this; omega
  exact ⟨div_bd hs.1 hx.1 hx.2 (by omega), div_bd hs.1 hy.1 hy.2 (by omega), h.wide, h.many⟩
/-- the cells that are closed: those of the box from which no way leads out -/
noncomputable def closC (c : Cel) (x y : Int) : Bool := decide (c.rows.length ≠ 0) && closB (onC c) (c.x / c.step) (c.y / c.step) (c.x / c.step + wideR c.rows - 1) (c.y / c.step + c.rows.length - 1) x y
/-- the cells of a box, row by row, that are not of a set -/
def boxT (G : Grd) (O : Int → Int → Bool) (j i : Nat) (u v : Int) : Bool :=
  decide ((G.x ≤ u ∧ u < G.x + G.wide) ∧ G.y ≤ v ∧ (v < G.y + j ∨ (v = G.y + j ∧ u < G.x + i))) && !O u v

theorem boxT_zero (G : Grd) (O : Int → Int → Bool) (u v : Int) : boxT G O 0 0 u v = false := by
  unfold boxT
  rw [decide_eq_false (by omega), Bool.false_and]

theorem boxT_row (G : Grd) (O : Int → Int → Bool) (j : Nat) (u v : Int) : boxT G O j G.wide u v = boxT G O (j + 1) 0 u v := by
  unfold boxT
  congr 1
  rw [decide_eq_decide]
  omega

theorem boxT_next (G : Grd) (O : Int → Int → Bool) (j i : Nat) (hi : i < G.wide) (u v : Int) : boxT G O j (i + 1) u v = (boxT G O j i u v || (!O (G.x + i) (G.y + j) && decide (u = G.x + i ∧ v = G.y + j))) := by
  unfold boxT
  by_cases h : u = G.x + i ∧ v = G.y + j
  · obtain ⟨rfl, rfl⟩ := h
    rw [decide_eq_true (by omega), decide_eq_false (by omega)]
    simp
  · rw [decide_eq_false h, Bool.and_false, Bool.or_false]
    congr 1
    rw [decide_eq_decide]
    omega

theorem boxT_all (G : Grd) (O : Int → Int → Bool) (u v : Int) : boxT G O G.high 0 u v = (decide (G.In u v) && !O u v) := by
  unfold boxT
  congr 1
  rw [decide_eq_decide]
  unfold Grd.In
  omega

end Go.Bl
namespace Go.Proofs.YtgcpegjggakemaaGreatDoor
open Go Go.RowKit Go.Bl

theorem SetI.frm {w0 w w' : World} {o ob x : Nat} {O : Grd} {T : Int → Int → Bool} (h : SetI w0 o ob O T w) (hg : w.grownBy w' (some x)) (hx : w0.heap.size ≤ x) (ho : o < w0.heap.size ∧ ob < w0.heap.size) : SetI w0 o ob O T w' := by
  obtain ⟨O', h1, h2, h3, h4⟩ := h
  exact ⟨O', h1.gr hg (by intro e; injection e; omega) (by intro e; injection e; omega), h2, h3, gr_new h4 hg hx⟩

theorem setIg_any (w0 : World) (o ob : Nat) (O : Grd) (T U : Int → Int → Bool) (x y : Int) (w : World) (h : SetI w0 o ob O T w) (hi : O.In x y) (hU : ∀ u v, U u v = (T u v || decide (u = x ∧ v = y))) :
    Calls Tryz.prog 94 #[.pointer (some ⟨o, 0, none⟩), .int .i64 x, .int .i64 y] w fun e w' => e = .returned (.tuple #[]) ∧ SetI w0 o ob O U w' ∧ w.grownBy w' (some ob) := by
  obtain ⟨O', h1, h2, h3, h4⟩ := h
  have hi' : O'.In x y := (h2.in_ x y).2 hi
  refine (set_any o ob O' x y w h1 hi').mono ?_
  rintro e w' ⟨rfl, k1, k2⟩
  exact ⟨rfl, ⟨O'.put x y, k1, h2.put x y, fun u v => by rw [h1.ok.put_at hi', h3, hU, Bool.or_assoc], gr_trans h4 k2⟩, k2⟩

theorem hI6of {w0 w w' : World} {o ob : Nat} {O : Grd} {T : Int → Int → Bool} (h : SetI w0 o ob O T w) {r : Option Nat} (hg : w.grownBy w' r) (hr : ∀ x, r = some x → w0.heap.size ≤ x) (ho : o < w0.heap.size ∧ ob < w0.heap.size) : SetI w0 o ob O T w' := by
  rcases r with _ | x
  · exact h.pure hg
  · exact h.frm hg (hr x rfl) ho

theorem outsG_any (n a b : Int) (w : World) : Calls Tryz.prog 56 #[.int .i64 n, .int .i64 a, .int .i64 b] w fun e w' => e = .returned (.bool (outB n a b)) ∧ w.grownBy w' none :=
  (outside_any n a b w).mono fun e w' h => ⟨h.1, by rw [← h.2]; exact World.grownBy.refl _ _⟩

theorem setAt_any (w0 : World) (o ob : Nat) (O : Grd) (T : Int → Int → Bool) (x y : Int) (w : World) (h : SetI w0 o ob O T w) (hx : -100000000 ≤ x ∧ x ≤ 100000000) (hy : -100000000 ≤ y ∧ y ≤ 100000000) :
    Calls Tryz.prog 85 #[.pointer (some ⟨o, 0, none⟩), .int .i64 x, .int .i64 y] w fun e w' => e = .returned (.bool (O.at x y || T x y)) ∧ w.grownBy w' none := by
  obtain ⟨O', h1, h2, h3, h4⟩ := h
  refine (at_any o ob O' x y w h1 hx hy).mono ?_
  rintro e w' ⟨rfl, k⟩
  exact ⟨by rw [h3], k⟩

theorem SetI.cells {w0 w : World} {o ob : Nat} {O : Grd} {T : Int → Int → Bool} (h : SetI w0 o ob O T w) : w.cell? ⟨o, 1, none⟩ = some (.int .i64 O.x) ∧ w.cell? ⟨o, 2, none⟩ = some (.int .i64 O.y) ∧
    w.cell? ⟨o, 3, none⟩ = some (.int .i64 (O.wide : Int)) ∧ w.cell? ⟨o, 4, none⟩ = some (.int .i64 (O.high : Int)) := by
  obtain ⟨O', h1, ⟨e1, e2, e3, e4, e5⟩, h3, h4⟩ := h
  obtain ⟨-, c1, c2, c3, c4, -⟩ := h1.cells
  rw [← e2, ← e3, ← e4, ← e5]
  exact ⟨c1, c2, c3, c4⟩

theorem SetI.gr {w0 w : World} {o ob : Nat} {O : Grd} {T : Int → Int → Bool} (h : SetI w0 o ob O T w) : w0.grownBy w (some ob) := let ⟨_, _, _, _, h4⟩ := h; h4

set_option maxHeartbeats 8000000 in
set_option maxRecDepth 100000 in
theorem closed_any (c : Cel) (A : Option Addr) (n cc : Nat) (w : World) (ha : CArg w c A n) :
    Calls Tryz.prog 28 #[.agg #[.int .i64 (c).step, .int .i64 (c).x, .int .i64 (c).y, .slice A n cc]] w fun e w' => CelsOutF w w' (cellsF c) c.step (closC c) e := by
  have hCh := hide (fun W (h : w.grownBy W none) => checkArg_any c A n cc W (ha.pure h))
  have hGr := hide (fun W (h : w.grownBy W none) (hok : CellsOk c) => gridArg_any c A n cc W (ha.pure h) hok)
  clear ha
  have hok' : Hid (cellsF c = 0 ↔ CellsOk c) := cells_ok
  obtain ⟨F, hF⟩ : ∃ F, F = cellsF c := ⟨_, rfl⟩
  rw [← hF] at hok' hCh
  rcases hz : (F == 0) with _ | _
  · have hne : F ≠ 0 := by simpa using hz
    have hE : Hid (ResC (cellsF c) c.step (closC c) ⟨0, 0, 0, []⟩ F) := .inl ⟨by rw [← hF]; exact hne, rfl, hF⟩
    have hz' : (F != 0) = true := by simp [hne]
    clear hF hok' hGr hne
    go_enter Tryz.func28, Tryz.ntmps28
    go_upto_region 1 with fail
    obtain ⟨w1, hw1⟩ : ∃ x, x = ((w).alloc (.cells [.int .i64 (c).step, .int .i64 (c).x, .int .i64 (c).y, .slice A n cc].toArray 34)).alloc (.cells [.int .i64 0, .int .i64 0, .int .i64 0, .slice none 0 0].toArray 34) := ⟨_, rfl⟩
    have hba1 : Box w1 (w).heap.size 34 [.int .i64 (c).step, .int .i64 (c).x, .int .i64 (c).y, .slice A n cc] := by
      rw [hw1]; exact (Box.new (w) [.int .i64 (c).step, .int .i64 (c).x, .int .i64 (c).y, .slice A n cc] 34).pure (gr_alloc (World.grownBy.refl _ _) _)
    have hbb1 : Box w1 ((w).heap.size + 1) 34 [.int .i64 0, .int .i64 0, .int .i64 0, .slice none 0 0] := by
      have h := Box.new ((w).alloc (.cells [.int .i64 (c).step, .int .i64 (c).x, .int .i64 (c).y, .slice A n cc].toArray 34)) [.int .i64 0, .int .i64 0, .int .i64 0, .slice none 0 0] 34
      rw [show ((w).alloc (.cells [.int .i64 (c).step, .int .i64 (c).x, .int .i64 (c).y, .slice A n cc].toArray 34)).heap.size = (w).heap.size + 1 by simp] at h
      rw [hw1]; exact h
    have hg1 : (w).grownBy w1 none := by rw [hw1]; exact (by repeat (first | exact World.grownBy.refl _ _ | assumption | refine gr_alloc ?_ _ | (apply gr_tail; assumption) | refine gr_drewN ?_ _ | refine gr_drew ?_))
    rw [← hw1]
    clear hw1
    obtain ⟨xb1, hxb1⟩ : ∃ x, x = (w).heap.size + 1 := ⟨_, rfl⟩
    rw [← hxb1] at hbb1 ⊢
    obtain ⟨xa1, hxa1⟩ : ∃ x, x = (w).heap.size := ⟨_, rfl⟩
    rw [← hxa1] at hba1 ⊢
    have hxn1 : xa1 ≠ xb1 := by omega
    replace hxa1 : (w).heap.size ≤ xa1 := by omega
    replace hxb1 : (w).heap.size ≤ xb1 := by omega
    obtain ⟨⟨a0, -⟩, ⟨a1, -⟩, ⟨a2, -⟩, ⟨a3, -⟩⟩ := box4_c hba1
    go_wp2_with fail
    refine (hCh.out w1 hg1).mono ?_
    rintro e w2 ⟨rfl, hg2⟩
    have hgw := hg1.t hg2
    replace hbb1 := hbb1.pure hg2
    clear a0 a1 a2 a3 hCh hba1 hg1 hg2
    obtain ⟨⟨d0, f0⟩, ⟨d1, f1⟩, ⟨d2, f2⟩, ⟨d3, f3⟩⟩ := box4_c hbb1
    go_wp2_with fail
    clear d0 d1 d2 d3 f0 f1 f2 f3
    have hgf := gr_new hgw (set4_gr (w := w2) (g := xb1) (.int .i64 0) (.int .i64 0) (.int .i64 0) (.slice none 0 0)) hxb1
    have hbf := box_set4 hbb1 (.int .i64 0) (.int .i64 0) (.int .i64 0) (.slice none 0 0)
    generalize (((w2.setCell ⟨xb1, 0, none⟩ (.int .i64 0)).setCell ⟨xb1, 1, none⟩ (.int .i64 0)).setCell ⟨xb1, 2, none⟩ (.int .i64 0)).setCell ⟨xb1, 3, none⟩ (.slice none 0 0) = wf at *
    obtain ⟨⟨d0, f0⟩, ⟨d1, f1⟩, ⟨d2, f2⟩, ⟨d3, f3⟩⟩ := box4_c hbf
    exact bodyPost_ret (v := .tuple #[.agg #[.int .i64 0, .int .i64 0, .int .i64 0, .slice none 0 0], .int .i64 F]) (by simp [results, Tryz.results28, go_sem, d0, d1, d2, d3, f0, f1, f2, f3]) rfl ⟨⟨0, 0, 0, []⟩, F, none, 0, rfl, hE.out, Own.nil _ _ _, hgf⟩
  have hF0 : F = 0 := by simpa using hz
  subst hF0
  have ok := hide (hok'.out.1 rfl)
  replace hF := hide hF
  clear hz hok'
  have hst := step_pos ok.out.step
  have hGm := hide (gridOf_bdC ok.out)
  obtain ⟨G, hGe⟩ : ∃ G, G = gridOf c := ⟨_, rfl⟩
  have hGat : Hid (∀ x y, G.at x y = onC c x y) := fun x y => by rw [hGe, gridOf_at ok.out]
  have hGs : Hid (G.step = c.step) := by rw [Hid, hGe]; rfl
  have hGb : Hid (G.x = c.x / c.step ∧ G.y = c.y / c.step ∧ G.wide = wideR c.rows ∧ G.high = c.rows.length) := by rw [hGe]; exact ⟨rfl, rfl, rfl, rfl⟩
  rw [← hGe] at hGr hGm
  clear hGe hst
  have hEs : Hid (∀ S, (∀ x y, S x y = closC c x y) → ∀ cl er, IsCells G.step S cl er → ResC (cellsF c) c.step (closC c) cl er) := fun S hS cl er h =>   .inr ⟨hF.out.symm, by have h2 := h.congr hS; rw [hGs.out] at h2; exact h2⟩
  go_enter Tryz.func28, Tryz.ntmps28
  go_upto_region 1 with fail
  obtain ⟨w1, hw1⟩ : ∃ x, x = ((w).alloc (.cells [.int .i64 (c).step, .int .i64 (c).x, .int .i64 (c).y, .slice A n cc].toArray 34)).alloc (.cells [.int .i64 0, .int .i64 0, .int .i64 0, .slice none 0 0].toArray 34) := ⟨_, rfl⟩
  have hba1 : Box w1 (w).heap.size 34 [.int .i64 (c).step, .int .i64 (c).x, .int .i64 (c).y, .slice A n cc] := by
    rw [hw1]; exact (Box.new (w) [.int .i64 (c).step, .int .i64 (c).x, .int .i64 (c).y, .slice A n cc] 34).pure (gr_alloc (World.grownBy.refl _ _) _)
  have hbb1 : Box w1 ((w).heap.size + 1) 34 [.int .i64 0, .int .i64 0, .int .i64 0, .slice none 0 0] := by
    have h := Box.new ((w).alloc (.cells [.int .i64 (c).step, .int .i64 (c).x, .int .i64 (c).y, .slice A n cc].toArray 34)) [.int .i64 0, .int .i64 0, .int .i64 0, .slice none 0 0] 34
    rw [show ((w).alloc (.cells [.int .i64 (c).step, .int .i64 (c).x, .int .i64 (c).y, .slice A n cc].toArray 34)).heap.size = (w).heap.size + 1 by simp] at h
    rw [hw1]; exact h
  have hg1 : (w).grownBy w1 none := by rw [hw1]; exact (by repeat (first | exact World.grownBy.refl _ _ | assumption | refine gr_alloc ?_ _ | (apply gr_tail; assumption) | refine gr_drewN ?_ _ | refine gr_drew ?_))
  rw [← hw1]
  clear hw1
  obtain ⟨xb1, hxb1⟩ : ∃ x, x = (w).heap.size + 1 := ⟨_, rfl⟩
  rw [← hxb1] at hbb1 ⊢
  obtain ⟨xa1, hxa1⟩ : ∃ x, x = (w).heap.size := ⟨_, rfl⟩
  rw [← hxa1] at hba1 ⊢
  have hxn1 : xa1 ≠ xb1 := by omega
  replace hxa1 : (w).heap.size ≤ xa1 := by omega
  replace hxb1 : (w).heap.size ≤ xb1 := by omega
  obtain ⟨⟨a0, -⟩, ⟨a1, -⟩, ⟨a2, -⟩, ⟨a3, -⟩⟩ := box4_c hba1
  go_wp2_with fail
  refine (hCh.out w1 hg1).mono ?_
  rintro e w2 ⟨rfl, hg2⟩
  have hgw := hg1.t hg2
  replace hbb1 := hbb1.pure hg2
  replace hba1 := hba1.pure hg2
  clear a0 a1 a2 a3 hCh hg1 hg2
  obtain ⟨⟨a0, -⟩, ⟨a1, -⟩, ⟨a2, -⟩, ⟨a3, -⟩⟩ := box4_c hba1
  go_wp2_with fail
  refine (hGr.out w2 hgw ok.out).mono ?_
  rintro e w3 ⟨g, gb, rfl, hG, hg3, hgg, hgb⟩
  replace hgw := hgw.t hg3
  replace hbb1 := hbb1.pure hg3
  clear a0 a1 a2 a3 hGr hba1 hg3
  have hok := hG.ok
  obtain ⟨-, -, -, d3, -, -⟩ := hG.cells
  rcases hw1 : ((G.wide : Int) == 0) with _ | _
  rotate_left
  · have he : G.wide = 0 := by have := beq_iff_eq.1 hw1; omega
    have hCc := hide (gridCells_any g gb G w3 hG)
    have hS : Hid (∀ x y, G.at x y = closC c x y) := fun x y => by
      have h1 : G.at x y = false := by
        rw [Bool.eq_false_iff]; intro h
        have := Grd.at_in h
        unfold Grd.In at this; omega
      rw [h1, closC]
      by_cases hr : c.rows.length = 0
      · rw [decide_eq_false (by simp [hr])]; rfl
      · exfalso
        have h2 := (right_box ok.out hr).l
        obtain ⟨v, hv⟩ := h2
        rw [← hGat.out] at hv
        have := Grd.at_in hv
        unfold Grd.In at this; omega
    clear he hok hG
    go_wp2_with fail
    refine (hCc.out).mono ?_
    rintro e v9 ⟨c9, er9, A9, cc9, rfl, hC9, hO9, hg9⟩
    have hb9 := (hbb1).pure hg9
    have hgw9 := (hgw).t hg9
    obtain ⟨⟨d0, f0⟩, ⟨d1, f1⟩, ⟨d2, f2⟩, ⟨d3, f3⟩⟩ := box4_c hb9
    replace hC9 := hide hC9
    obtain ⟨n9, hn9⟩ : ∃ n, n = c9.rows.length := ⟨_, rfl⟩
    rw [← hn9]
    replace hn9 := hide hn9
    go_wp2_with fail
    clear d0 d1 d2 d3 f0 f1 f2 f3
    have hgf := gr_new hgw9 (set4_gr (w := v9) (g := xb1) (.int .i64 c9.step) (.int .i64 c9.x) (.int .i64 c9.y) (.slice A9 n9 cc9)) hxb1
    have hOf := (Own.lower hO9 ((hgw).size)).ne (set4_gr (w := v9) (g := xb1) (.int .i64 c9.step) (.int .i64 c9.x) (.int .i64 c9.y) (.slice A9 n9 cc9)) (fun x h e => hb9.ne_own hO9 (by decide) (by injection e with e; rw [e]; exact h))
    have hbf := box_set4 hb9 (.int .i64 c9.step) (.int .i64 c9.x) (.int .i64 c9.y) (.slice A9 n9 cc9)
    generalize (((v9.setCell ⟨xb1, 0, none⟩ (.int .i64 c9.step)).setCell ⟨xb1, 1, none⟩ (.int .i64 c9.x)).setCell ⟨xb1, 2, none⟩ (.int .i64 c9.y)).setCell ⟨xb1, 3, none⟩ (.slice A9 n9 cc9) = wf at *
    obtain ⟨⟨d0, f0⟩, ⟨d1, f1⟩, ⟨d2, f2⟩, ⟨d3, f3⟩⟩ := box4_c hbf
    exact bodyPost_ret (v := .tuple #[.agg #[.int .i64 c9.step, .int .i64 c9.x, .int .i64 c9.y, .slice A9 n9 cc9], .int .i64 er9]) (by simp [results, Tryz.results28, go_sem, d0, d1, d2, d3, f0, f1, f2, f3]) rfl ⟨c9, er9, A9, cc9, by rw [hn9.out], (fun h => hEs.out _ hS.out _ _ h) hC9.out, hOf, hgf⟩
  have hW0 : 0 < G.wide := by
    apply Nat.pos_of_ne_zero
    intro e
    rw [e] at hw1; simp at hw1
  have hNok : (Grd.none G.step (G.x - 1) (G.y - 1) (G.wide + 2) (G.high + 2)).Ok := by
    have := hGm.out
    exact ⟨hok.s, by show _ ≤ G.x - 1 ∧ G.x - 1 ≤ _; omega, by show _ ≤ G.y - 1 ∧ G.y - 1 ≤ _; omega, by show G.wide + 2 ≤ 1000; omega, by show G.high + 2 ≤ 1000; omega, by simp [Grd.none]⟩
  have hN := hide (fun W => newGrid_any G.step (G.x - 1) (G.y - 1) (G.wide + 2) (G.high + 2) W hNok)
  have hcl := hide (fun W (h : w3.grownBy W none) => (hG.pure h).cells)
  have hxm := hok.x
  have hym := hok.y
  have hwm := hok.w
  have hhm := hok.h
  replace hNok := hide hNok
  go_upto_region 7 with fail
  clear d3 hw1
  go_cut [6] from 33 to 58 (fun s6 wx => ∃ og ob, s6 = .pointer (some ⟨og, 0, none⟩) ∧ GridAt wx og ob (Grd.none G.step (G.x - 1) (G.y - 1) (G.wide + 2) (G.high + 2)) ∧ w3.grownBy wx none ∧ w3.heap.size ≤ og ∧ w3.heap.size ≤ ob)
  case first =>
    refine wp_region_tree (fun wx => w3.grownBy wx none) [2, 2, 2, 1, 2, 2, 2, 1, 2, 2, 2, 2, 1, 2, 2, 2, 2, 1, 2, 2, 2, 2, 1, 2, 0, 2] (.bl 0 (.bl 1 (.bl 2 (.bl 3 (.bl 4 (.bl 5 (.bl 6 (.bl 7 (.bl 8 (.bl 9 (.bl 10 (.bl 11 (.bl 12 (.bl 13 (.bl 14 (.bl 15 (.bl 16 (.bl 17 (.bl 18 (.bl 19 (.bl 20 (.bl 21 (.bl 22 (.bl 23 (.ef 24 (.bl 25 .done)))))))))))))))))))))))))) (by kernel_rfl) (by kernel_rfl) (gr_drew (World.grownBy.refl _ _)) ?_
    obtain ⟨u0, hu0⟩ : ∃ x, x = (w3).drew := ⟨_, rfl⟩
    rw [← hu0]
    have hgu0 : (w3).grownBy u0 none := by rw [hu0]; exact gr_drew (World.grownBy.refl _ _)
    clear hu0
    refine tree_p rfl rfl rfl rfl _ rfl (by simp) (fun K hK => ?_)
    apply Exists.intro
    refine ⟨fun wq K' hK' => ?_, ?_⟩
    · go_wp2_with fail
      exact hK'
    go_simp
    refine hK _ ?_
    clear hK K
    refine tree_n rfl rfl _ rfl _ rfl ?_
    try go_simp
    refine tree_p rfl rfl rfl rfl _ rfl (by simp) (fun K hK => ?_)
    apply Exists.intro
    refine ⟨fun wq K' hK' => ?_, ?_⟩
    · go_wp2_with fail
      exact hK'
    go_simp
    refine hK _ ?_
    clear hK K
    refine tree_b rfl rfl rfl rfl _ rfl (by simp) (fun K hK => ?_)
    apply Exists.intro
    refine ⟨fun wq hq K' hK' => ?_, ?_⟩
    · obtain ⟨d0, d1, d2, d3, d4, -⟩ := hcl.out wq hq
      go_wp2_with fail
      exact hK'
    go_simp
    refine hK _ ?_
    clear hK K
    refine tree_p rfl rfl rfl rfl _ rfl (by simp) (fun K hK => ?_)
    apply Exists.intro
    refine ⟨fun wq K' hK' => ?_, ?_⟩
    · go_wp2_with fail
      exact hK'
    go_simp
    refine hK _ ?_
    clear hK K
    refine tree_n rfl rfl _ rfl _ rfl ?_
    try go_simp
    refine tree_p rfl rfl rfl rfl _ rfl (by simp) (fun K hK => ?_)
    apply Exists.intro
    refine ⟨fun wq K' hK' => ?_, ?_⟩
    · go_wp2_with fail
      exact hK'
    go_simp
    refine hK _ ?_
    clear hK K
    refine tree_b rfl rfl rfl rfl _ rfl (by simp) (fun K hK => ?_)
    apply Exists.intro
    refine ⟨fun wq hq K' hK' => ?_, ?_⟩
    · obtain ⟨d0, d1, d2, d3, d4, -⟩ := hcl.out wq hq
      go_wp2_with fail
      exact hK'
    go_simp
    refine hK _ ?_
    clear hK K
    refine tree_p rfl rfl rfl rfl _ rfl (by simp) (fun K hK => ?_)
    apply Exists.intro
    refine ⟨fun wq K' hK' => ?_, ?_⟩
    · go_wp2_with fail
      exact hK'
    go_simp
    refine hK _ ?_
    clear hK K
    refine tree_p rfl rfl rfl rfl _ rfl (by simp) (fun K hK => ?_)
    apply Exists.intro
    refine ⟨fun wq K' hK' => ?_, ?_⟩
    · go_wp2_with fail
      exact hK'
    go_simp
    refine hK _ ?_
    clear hK K
    refine tree_n rfl rfl _ rfl _ rfl ?_
    try go_simp
    refine tree_p rfl rfl rfl rfl _ rfl (by simp) (fun K hK => ?_)
    apply Exists.intro
    refine ⟨fun wq K' hK' => ?_, ?_⟩
    · go_wp2_with fail
      exact hK'
    go_simp
    refine hK _ ?_
    clear hK K
    refine tree_b rfl rfl rfl rfl _ rfl (by simp) (fun K hK => ?_)
    apply Exists.intro
    refine ⟨fun wq hq K' hK' => ?_, ?_⟩
    · obtain ⟨d0, d1, d2, d3, d4, -⟩ := hcl.out wq hq
      go_wp2_with fail
      exact hK'
    go_simp
    refine hK _ ?_
    clear hK K
    refine tree_p rfl rfl rfl rfl _ rfl (by simp) (fun K hK => ?_)
    apply Exists.intro
    refine ⟨fun wq K' hK' => ?_, ?_⟩
    · go_wp2_with fail
      exact hK'
    go_simp
    refine hK _ ?_
    clear hK K
    refine tree_p rfl rfl rfl rfl _ rfl (by simp) (fun K hK => ?_)
    apply Exists.intro
    refine ⟨fun wq K' hK' => ?_, ?_⟩
    · go_wp2_with fail
      exact hK'
    go_simp
    refine hK _ ?_
    clear hK K
    refine tree_n rfl rfl _ rfl _ rfl ?_
    try go_simp
    refine tree_p rfl rfl rfl rfl _ rfl (by simp) (fun K hK => ?_)
    apply Exists.intro
    refine ⟨fun wq K' hK' => ?_, ?_⟩
    · go_wp2_with fail
      exact hK'
    go_simp
    refine hK _ ?_
    clear hK K
    refine tree_b rfl rfl rfl rfl _ rfl (by simp) (fun K hK => ?_)
    apply Exists.intro
    refine ⟨fun wq hq K' hK' => ?_, ?_⟩
    · obtain ⟨d0, d1, d2, d3, d4, -⟩ := hcl.out wq hq
      go_wp2_with fail
      exact hK'
    go_simp
    refine hK _ ?_
    clear hK K
    refine tree_p rfl rfl rfl rfl _ rfl (by simp) (fun K hK => ?_)
    apply Exists.intro
    refine ⟨fun wq K' hK' => ?_, ?_⟩
    · go_wp2_with fail
      exact hK'
    go_simp
    refine hK _ ?_
    clear hK K
    refine tree_p rfl rfl rfl rfl _ rfl (by simp) (fun K hK => ?_)
    apply Exists.intro
    refine ⟨fun wq K' hK' => ?_, ?_⟩
    · go_wp2_with fail
      exact hK'
    go_simp
    refine hK _ ?_
    clear hK K
    refine tree_n rfl rfl _ rfl _ rfl ?_
    try go_simp
    refine tree_p rfl rfl rfl rfl _ rfl (by simp) (fun K hK => ?_)
    apply Exists.intro
    refine ⟨fun wq K' hK' => ?_, ?_⟩
    · go_wp2_with fail
      exact hK'
    go_simp
    refine hK _ ?_
    clear hK K
    refine tree_b rfl rfl rfl rfl _ rfl (by simp) (fun K hK => ?_)
    apply Exists.intro
    refine ⟨fun wq hq K' hK' => ?_, ?_⟩
    · obtain ⟨d0, d1, d2, d3, d4, -⟩ := hcl.out wq hq
      go_wp2_with fail
      exact hK'
    go_simp
    refine hK _ ?_
    clear hK K
    refine tree_p rfl rfl rfl rfl _ rfl (by simp) (fun K hK => ?_)
    apply Exists.intro
    refine ⟨fun wq K' hK' => ?_, ?_⟩
    · go_wp2_with fail
      exact hK'
    go_simp
    refine hK _ ?_
    clear hK K
    refine tree_e0 (by kernel_rfl) rfl rfl (fun K hK => ?_)
    go_wp2_with fail
    refine (hN.out u0).mono ?_
    rintro e w24 ⟨og, ob, rfl, hO, hg24, hog, hob⟩
    go_wp2_with fail
    try go_simp
    refine hK _ _ trivial ?_
    clear hK K
    refine tree_p rfl rfl rfl rfl _ rfl (by simp) (fun K hK => ?_)
    apply Exists.intro
    refine ⟨fun wq K' hK' => ?_, ?_⟩
    · go_wp2_with fail
      exact hK'
    go_simp
    refine hK _ ?_
    clear hK K
    refine tree_done ?_
    go_wp2_with fail
    go_meet
    have := hgu0.size
    exact ⟨og, ob, rfl, hO, gr_trans hgu0 hg24, by omega, by omega⟩
  case rest =>
  obtain ⟨og, ob, rfl, hO, hgc, hog, hob⟩ := hcut
  generalize hwq : wc = w4 at *
  clear hwq hN hcl
  have hG4 := hG.pure hgc
  have hl4 := And.intro hG4.lt hO.lt
  have hd : ob ≠ g ∧ ob ≠ gb ∧ ob ≠ og ∧ og ≠ g ∧ og ≠ gb := by
    have h1 := hG.lt
    have h2 := hO.ne
    omega
  have hgw4 := hgw.t hgc
  have hbb4 := hbb1.pure hgc
  have hobw : w.heap.size ≤ ob := by have := hgw.size; omega
  clear hG hgw hgc hog hob hbb1
  obtain ⟨P, hP⟩ : ∃ P, P = Grd.none G.step (G.x - 1) (G.y - 1) (G.wide + 2) (G.high + 2) := ⟨_, rfl⟩
  rw [← hP] at hO hNok
  have hPx : P.x = G.x - 1 := by rw [hP]; rfl
  have hPy : P.y = G.y - 1 := by rw [hP]; rfl
  have hPw : P.wide = G.wide + 2 := by rw [hP]; rfl
  have hPh : P.high = G.high + 2 := by rw [hP]; rfl
  have hPa : Hid (∀ u v, P.at u v = false) := fun u v => by rw [hP, Grd.none_at]
  clear hP
  have hH0 : 0 < G.high := by
    apply Nat.pos_of_ne_zero
    intro e
    have hr : c.rows.length = 0 := by rw [← hGb.out.2.2.2]; exact e
    have hw : G.wide = wideR c.rows := hGb.out.2.2.1
    have : c.rows = [] := List.eq_nil_of_length_eq_zero hr
    rw [this] at hw
    simp [wideR] at hw
    omega
  have hin : Hid (∀ x y, G.at x y = true → G.x ≤ x ∧ x ≤ G.x + G.wide - 1 ∧ G.y ≤ y ∧ y ≤ G.y + G.high - 1) := fun x y h => by
    have := Grd.at_in h
    unfold Grd.In at this
    omega
  have hI0 : SetI w4 og ob P (fun _ _ => false) w4 := SetI.start hO
  have hGc := hide (fun W (h : w4.grownBy W (some ob)) => hG4.gr h (by intro e; injection e with e; exact hd.1 e) (by intro e; injection e with e; exact hd.2.1 e))
  have hbbc := hide (fun W (h : w4.grownBy W (some ob)) => (hbb4.gr h (by intro e; injection e with e; exact hbb4.ne_own hO.on (by decide) (by rw [e]; rfl)) : Box W xb1 34 [.int .i64 0, .int .i64 0, .int .i64 0, .slice none 0 0]))
  have hlb := hbb4.lt
  clear hG4 hO hbb4
  have hcl := hide (fun W (h : w4.grownBy W none) => (hI0.pure h).cells)
  rw [hPx, hPy] at hcl
  go_upto_region 8 with fail
  go_cut [7] from 58 to 68 (fun s7 wx => ∃ x9, s7 = .slice (some ⟨x9, 0, none⟩) 1 1 ∧ Own wx w4.heap.size 30 (some ⟨x9, 0, none⟩) 1 [(⟨G.x - 1, G.y - 1⟩ : Pt)] ∧ w4.grownBy wx none)
  case first =>
    refine wp_region_tree (fun wx => w4.grownBy wx none) [2, 2, 2, 1, 2, 2, 2, 1, 2, 0, 2] (.bl 0 (.bl 1 (.bl 2 (.bl 3 (.bl 4 (.bl 5 (.bl 6 (.bl 7 (.bl 8 (.ef 9 (.bl 10 .done))))))))))) (by kernel_rfl) (by kernel_rfl) (gr_drew (World.grownBy.refl _ _)) ?_
    obtain ⟨u0, hu0⟩ : ∃ x, x = (w4).drew := ⟨_, rfl⟩
    rw [← hu0]
    have hgu0 : (w4).grownBy u0 none := by rw [hu0]; exact gr_drew (World.grownBy.refl _ _)
    clear hu0
    refine tree_p rfl rfl rfl rfl _ rfl (by simp) (fun K hK => ?_)
    apply Exists.intro
    refine ⟨fun wq K' hK' => ?_, ?_⟩
    · go_wp2_with fail
      exact hK'
    go_simp
    refine hK _ ?_
    clear hK K
    refine tree_n rfl rfl _ rfl _ rfl ?_
    try go_simp
    refine tree_p rfl rfl rfl rfl _ rfl (by simp) (fun K hK => ?_)
    apply Exists.intro
    refine ⟨fun wq K' hK' => ?_, ?_⟩
    · go_wp2_with fail
      exact hK'
    go_simp
    refine hK _ ?_
    clear hK K
    refine tree_b rfl rfl rfl rfl _ rfl (by simp) (fun K hK => ?_)
    apply Exists.intro
    refine ⟨fun wq hq K' hK' => ?_, ?_⟩
    · obtain ⟨d1, d2, d3, d4⟩ := hcl.out wq hq
      go_wp2_with fail
      exact hK'
    go_simp
    refine hK _ ?_
    clear hK K
    refine tree_p rfl rfl rfl rfl _ rfl (by simp) (fun K hK => ?_)
    apply Exists.intro
    refine ⟨fun wq K' hK' => ?_, ?_⟩
    · go_wp2_with fail
      exact hK'
    go_simp
    refine hK _ ?_
    clear hK K
    refine tree_n rfl rfl _ rfl _ rfl ?_
    try go_simp
    refine tree_p rfl rfl rfl rfl _ rfl (by simp) (fun K hK => ?_)
    apply Exists.intro
    refine ⟨fun wq K' hK' => ?_, ?_⟩
    · go_wp2_with fail
      exact hK'
    go_simp
    refine hK _ ?_
    clear hK K
    refine tree_b rfl rfl rfl rfl _ rfl (by simp) (fun K hK => ?_)
    apply Exists.intro
    refine ⟨fun wq hq K' hK' => ?_, ?_⟩
    · obtain ⟨d1, d2, d3, d4⟩ := hcl.out wq hq
      go_wp2_with fail
      exact hK'
    go_simp
    refine hK _ ?_
    clear hK K
    refine tree_p rfl rfl rfl rfl _ rfl (by simp) (fun K hK => ?_)
    apply Exists.intro
    refine ⟨fun wq K' hK' => ?_, ?_⟩
    · go_wp2_with fail
      exact hK'
    go_simp
    refine hK _ ?_
    clear hK K
    refine tree_e0 (by kernel_rfl) rfl rfl (fun K hK => ?_)
    go_wp2_with fail
    try go_simp
    refine hK _ _ trivial ?_
    clear hK K
    have hOl := own_litF u0 w4.heap.size [.int .i64 (G.x - 1), .int .i64 (G.y - 1)] 30 [(⟨G.x - 1, G.y - 1⟩ : Pt)] u0.heap.size 1 rfl rfl hgu0.size (by simp [maxLen]) ⟨_, [], rfl, rfl, rfl⟩
    have hgA := gr_alloc hgu0 (.cells #[.int .i64 (G.x - 1), .int .i64 (G.y - 1)] 30)
    change Own (u0.alloc (.cells #[.int .i64 (G.x - 1), .int .i64 (G.y - 1)] 30)) _ _ _ _ _ at hOl
    refine tree_p rfl rfl rfl rfl _ rfl (by simp) (fun K hK => ?_)
    apply Exists.intro
    refine ⟨fun wq K' hK' => ?_, ?_⟩
    · go_wp2_with fail
      exact hK'
    go_simp
    refine hK _ ?_
    clear hK K
    refine tree_done ?_
    go_wp2_with fail
    go_meet
    exact ⟨u0.heap.size, rfl, hOl, hgA⟩
  case rest =>
  obtain ⟨x9, rfl, hOl, hgc⟩ := hcut
  generalize hwq : wc = w5 at *
  clear hwq hcl
  have hI5 := hI0.pure hgc
  clear hI0 hgc
  have hcl := hide (fun W (h : w5.grownBy W none) => (hI5.pure h).cells)
  rw [hPx, hPy] at hcl
  have hset := hide (fun W (h : w5.grownBy W none) => setIg_any w4 og ob P _ (memL [(⟨G.x - 1, G.y - 1⟩ : Pt)]) (G.x - 1) (G.y - 1) W (hI5.pure h) (by unfold Grd.In; omega) (fun u v => by simp [memL]))
  go_upto_region 9 with fail
  refine wp_region_tree (fun wx => w5.grownBy wx none) [2, 2, 2, 2, 1, 2, 2, 2, 1, 0] (.bl 0 (.bl 1 (.bl 2 (.bl 3 (.bl 4 (.bl 5 (.bl 6 (.bl 7 (.bl 8 (.ef 9 .done)))))))))) (by kernel_rfl) (by kernel_rfl) (gr_drew (World.grownBy.refl _ _)) ?_
  obtain ⟨u0, hu0⟩ : ∃ x, x = (w5).drew := ⟨_, rfl⟩
  rw [← hu0]
  have hgu0 : (w5).grownBy u0 none := by rw [hu0]; exact gr_drew (World.grownBy.refl _ _)
  clear hu0
  refine tree_p rfl rfl rfl rfl _ rfl (by simp) (fun K hK => ?_)
  apply Exists.intro
  refine ⟨fun wq K' hK' => ?_, ?_⟩
  · go_wp2_with fail
    exact hK'
  go_simp
  refine hK _ ?_
  clear hK K
  refine tree_p rfl rfl rfl rfl _ rfl (by simp) (fun K hK => ?_)
  apply Exists.intro
  refine ⟨fun wq K' hK' => ?_, ?_⟩
  · go_wp2_with fail
    exact hK'
  go_simp
  refine hK _ ?_
  clear hK K
  refine tree_n rfl rfl _ rfl _ rfl ?_
  try go_simp
  refine tree_p rfl rfl rfl rfl _ rfl (by simp) (fun K hK => ?_)
  apply Exists.intro
  refine ⟨fun wq K' hK' => ?_, ?_⟩
  · go_wp2_with fail
    exact hK'
  go_simp
  refine hK _ ?_
  clear hK K
  refine tree_b rfl rfl rfl rfl _ rfl (by simp) (fun K hK => ?_)
  apply Exists.intro
  refine ⟨fun wq hq K' hK' => ?_, ?_⟩
  · obtain ⟨d1, d2, d3, d4⟩ := hcl.out wq hq
    go_wp2_with fail
    exact hK'
  go_simp
  refine hK _ ?_
  clear hK K
  refine tree_p rfl rfl rfl rfl _ rfl (by simp) (fun K hK => ?_)
  apply Exists.intro
  refine ⟨fun wq K' hK' => ?_, ?_⟩
  · go_wp2_with fail
    exact hK'
  go_simp
  refine hK _ ?_
  clear hK K
  refine tree_n rfl rfl _ rfl _ rfl ?_
  try go_simp
  refine tree_p rfl rfl rfl rfl _ rfl (by simp) (fun K hK => ?_)
  apply Exists.intro
  refine ⟨fun wq K' hK' => ?_, ?_⟩
  · go_wp2_with fail
    exact hK'
  go_simp
  refine hK _ ?_
  clear hK K
  refine tree_b rfl rfl rfl rfl _ rfl (by simp) (fun K hK => ?_)
  apply Exists.intro
  refine ⟨fun wq hq K' hK' => ?_, ?_⟩
  · obtain ⟨d1, d2, d3, d4⟩ := hcl.out wq hq
    go_wp2_with fail
    exact hK'
  go_simp
  refine hK _ ?_
  clear hK K
  refine tree_e0 (by kernel_rfl) rfl rfl (fun K hK => ?_)
  go_wp2_with fail
  refine (hset.out u0 (gr_trans hgu0 (World.grownBy.refl _ _))).mono ?_
  rintro e w6 ⟨rfl, hI6, hg9⟩
  replace hI6 := hide hI6
  go_wp2_with fail
  try go_simp
  refine hK _ _ trivial ?_
  clear hK K
  refine tree_done ?_
  have hO6 := (hOl.pure hgu0).keep hg9 (fun z e => by injection e; omega)
  replace hI6 := hI6.out
  clear hset hcl hI5 hOl hgu0 hg9
  replace hPx := hide hPx
  replace hPy := hide hPy
  replace hPw := hide hPw
  replace hPh := hide hPh
  obtain ⟨Fr, hFr⟩ : ∃ Fr, Fr = frmB G.at G.x G.y (G.x + G.wide - 1) (G.y + G.high - 1) := ⟨_, rfl⟩
  obtain ⟨s, hs0⟩ : ∃ s : Pt, s = ⟨G.x - 1, G.y - 1⟩ := ⟨_, rfl⟩
  rw [← hs0] at hO6 hI6
  have hFi : Hid (∀ x y, Fr x y = true ↔ ((G.x - 1 ≤ x ∧ x ≤ G.x + G.wide - 1 + 1) ∧ G.y - 1 ≤ y ∧ y ≤ G.y + G.high - 1 + 1) ∧ G.at x y = false) := fun x y => by rw [hFr]; exact frm_iff
  have hsF : Hid (Fr s.x s.y = true) := by
    rw [Hid, hFi.out, hs0]
    refine ⟨by simp only; omega, ?_⟩
    rw [Bool.eq_false_iff]; intro h
    have := hin.out _ _ h
    simp only at this; omega
  have hB6 : Hid (Bfs nb9 Fr (fun _ _ => false) s [s] 0 0) := Bfs.start rfl
  obtain ⟨N, hN⟩ : ∃ N, N = (G.wide + 2) * (G.high + 2) := ⟨_, rfl⟩
  have hNb : N ≤ 1000000 := by rw [hN]; exact ix_bd (by have := hGm.out; omega) (by have := hGm.out; omega)
  have hlbb : Hid (∀ l : List Pt, (∀ q ∈ l, Rch nb9 Fr s q) → l.Nodup → l.length ≤ N) := fun l h1 h2 => by
    rw [hN]
    exact nodup_box h2 (x0 := G.x - 1) (y0 := G.y - 1) (fun p hp => by
      have := ((hFi.out _ _).1 ((h1 p hp).in_ hsF.out)).1
      omega)
  replace hN := hide hN
  replace hFr := hide hFr
  replace hs0 := hide hs0
  obtain ⟨i0, hi, hz, h1, h2⟩ := info_parts info_pt
  replace hi := hide hi
  replace hz := hide hz
  replace h1 := hide h1
  replace h2 := hide h2
  go_wp2_with fail
  go_loopw [7, 8] (fun s7 i wr => ∃ (l : List Pt) (k : Nat) (A : Option Addr) (c' : Nat), k ≤ l.length ∧ i = .int .i64 k ∧ s7 = .slice A l.length c' ∧ Own wr w4.heap.size 30 A c' l ∧ Hid (Bfs nb9 Fr (fun _ _ => false) s l k 0) ∧ SetI w4 og ob P (memL l) wr) (fun _ i _ => N - (intOf i).toNat)
  case atStart => exact ⟨[s], 0, _, _, Nat.zero_le _, rfl, rfl, hO6, hB6, hI6⟩
  case round =>
    clear hO6 hB6 hI6
    obtain ⟨l, k, A, c', hk, rfl, rfl, hOl, hB, hI⟩ := hrel
    have hlN := hlbb.out l hB.out.rch hB.out.nd
    by_cases hlt : k < l.length
    · go_wp2_with fail
      go_loopw [7, 9] (fun s7 i wr => ∃ (l : List Pt) (a : Nat) (A : Option Addr) (c' : Nat), a ≤ 3 ∧ i = .int .i64 ((a : Int) - 1) ∧ s7 = .slice A l.length c' ∧ Own wr w4.heap.size 30 A c' l ∧ Hid (Bfs nb9 Fr (fun _ _ => false) s l k (3 * a)) ∧ SetI w4 og ob P (memL l) wr ∧ k < l.length) (fun _ i _ => (2 - intOf i).toNat)
      case atStart => exact ⟨l, 0, A, c', by omega, rfl, rfl, hOl, hB, hI, hlt⟩
      case round =>
        clear hOl hB hI hlt
        obtain ⟨l, a, A, c', ha, rfl, rfl, hOl, hB, hI, hlt⟩ := hrel
        by_cases ha3 : a < 3
        · have ha3d : (a : Int) - 1 ≤ 1 := by omega
          go_wp2_with fail
          go_loopw [7, 10] (fun s7 i wr => ∃ (l : List Pt) (b : Nat) (A : Option Addr) (c' : Nat), b ≤ 3 ∧ i = .int .i64 ((b : Int) - 1) ∧ s7 = .slice A l.length c' ∧ Own wr w4.heap.size 30 A c' l ∧ Hid (Bfs nb9 Fr (fun _ _ => false) s l k (3 * a + b)) ∧ SetI w4 og ob P (memL l) wr ∧ k < l.length) (fun _ i _ => (2 - intOf i).toNat)
          case atStart => exact ⟨l, 0, A, c', by omega, rfl, rfl, hOl, hB, hI, hlt⟩
          case round =>
            clear hOl hB hI hlt
            obtain ⟨l, b, A, c', hb, rfl, rfl, hOl, hB, hI, hlt⟩ := hrel
            have hlN := hlbb.out l hB.out.rch hB.out.nd
            by_cases hb3 : b < 3
            · have hb3d : (b : Int) - 1 ≤ 1 := by omega
              obtain ⟨ga, rfl, hga, -⟩ := hOl.shape (by omega)
              obtain ⟨c0, c1⟩ := own_ptF hOl hlt
              have hqF := (hB.out.rch _ (List.getElem_mem hlt)).in_ hsF.out
              rw [hFi.out] at hqF
              obtain ⟨hm9, hnb⟩ := nb9_get l[k] (show 3 * a + b < 9 by omega)
              have e1 : (3 * a + b) % 3 = b := by omega
              have e2 : (3 * a + b) / 3 = a := by omega
              obtain ⟨q, hq⟩ : ∃ q, q = l[k] := ⟨_, rfl⟩
              have hnb2 : Hid ((nb9 l[k])[3 * a + b] = ⟨q.x + ((b : Int) - 1), q.y + ((a : Int) - 1)⟩) := by rw [Hid, hnb, hq, e1, e2]
              rw [← hq] at c0 c1 hqF
              have hqb := hqF.1
              replace hq := hide hq
              clear hqF hnb e1 e2
              go_upto_region 19 with fail
              go_quiet (fail)
              go_upto_region 20 with fail
              have hg19 : wr.grownBy (wr.drewN nq) none := gr_drewN (World.grownBy.refl _ _) nq
              generalize wr.drewN nq = wy at *
              clear c0 c1
              obtain ⟨px, hpx⟩ : ∃ z, z = q.x + ((b : Int) - 1) := ⟨_, rfl⟩
              obtain ⟨py, hpy⟩ : ∃ z, z = q.y + ((a : Int) - 1) := ⟨_, rfl⟩
              rw [← hpx, ← hpy]
              rw [← hpx, ← hpy] at hnb2
              have hpb : (-20000000 ≤ px ∧ px ≤ 20000000) ∧ (-20000000 ≤ py ∧ py ≤ 20000000) := by omega
              clear hpx hpy hqb
              have hIy := hI.pure hg19
              have hcl := hide (fun W (h : wy.grownBy W none) => (hIy.pure h).cells)
              have hA1 := hide (fun W (h : wy.grownBy W none) => outsG_any px P.x (P.x + P.wide - 1) W)
              have hA2 := hide (fun W (h : wy.grownBy W none) => outsG_any py P.y (P.y + P.high - 1) W)
              have hA3 := hide (fun W (h : wy.grownBy W none) => at_any g gb G px py W (hGc.out W (gr_trans hIy.gr (gr_any h))) (by omega) (by omega))
              have hA4 := hide (fun W (h : wy.grownBy W none) => setAt_any w4 og ob P (memL l) px py W (hIy.pure h) (by omega) (by omega))
              clear hIy
              have hNk := hNok.out
              have hNx := hNk.x
              have hNy := hNk.y
              have hNw := hNk.w
              have hNh := hNk.h
              clear hNk
              rcases hv1 : outB px P.x (P.x + P.wide - 1) with _ | _
              rotate_left
              · have hfin := hide (hB.out.skip hlt hm9 (fun ha => by
                  rw [hnb2.out, hFi.out] at ha
                  exfalso
                  simp only [outB, Bool.or_eq_true, decide_eq_true_eq] at hv1
                  have := hPx.out; have := hPw.out; simp only at ha; omega))
                rw [hv1] at hA1
                clear hv1
                refine wp_region_tree (fun wx => wy.grownBy wx none) [2, 2, 2, 2, 1, 2, 2, 2, 1, 2, 2, 2, 1, 2, 2, 0, 2, 2, 2, 2, 2, 1, 2, 2, 2, 1, 2, 2, 2, 1, 2, 2, 0, 2, 2, 2, 2, 2, 0, 2, 2, 2, 2, 2, 0, 2] (.bl 0 (.bl 1 (.bl 2 (.bl 3 (.bl 4 (.bl 5 (.bl 6 (.bl 7 (.bl 8 (.bl 9 (.bl 10 (.bl 11 (.bl 12 (.bl 13 (.bl 14 (.ef 15 (.bl 16 (.bl 17 (.bl 18 (.bl 19 (.bl 20 (.bl 21 (.bl 22 (.bl 23 (.bl 24 (.bl 25 (.bl 26 (.bl 27 (.bl 28 (.bl 29 (.bl 30 (.bl 31 (.ef 32 (.bl 33 (.bl 34 (.bl 35 (.bl 36 (.bl 37 (.ef 38 (.bl 39 (.bl 40 (.bl 41 (.bl 42 (.bl 43 (.ef 44 (.bl 45 .done)))))))))))))))))))))))))))))))))))))))))))))) (by kernel_rfl) (by kernel_rfl) (gr_drew (World.grownBy.refl _ _)) ?_
                obtain ⟨u0, hu0⟩ : ∃ x, x = (wy).drew := ⟨_, rfl⟩
                rw [← hu0]
                have hgu0 : (wy).grownBy u0 none := by rw [hu0]; exact gr_drew (World.grownBy.refl _ _)
                clear hu0
                refine tree_p rfl rfl rfl rfl _ rfl (by simp) (fun K hK => ?_)
                apply Exists.intro
                refine ⟨fun wq K' hK' => ?_, ?_⟩
                · go_wp2_with fail
                  exact hK'
                go_simp
                refine hK _ ?_
                clear hK K
                refine tree_p rfl rfl rfl rfl _ rfl (by simp) (fun K hK => ?_)
                apply Exists.intro
                refine ⟨fun wq K' hK' => ?_, ?_⟩
                · go_wp2_with fail
                  exact hK'
                go_simp
                refine hK _ ?_
                clear hK K
                refine tree_n rfl rfl _ rfl _ rfl ?_
                try go_simp
                refine tree_p rfl rfl rfl rfl _ rfl (by simp) (fun K hK => ?_)
                apply Exists.intro
                refine ⟨fun wq K' hK' => ?_, ?_⟩
                · go_wp2_with fail
                  exact hK'
                go_simp
                refine hK _ ?_
                clear hK K
                refine tree_b rfl rfl rfl rfl _ rfl (by simp) (fun K hK => ?_)
                apply Exists.intro
                refine ⟨fun wq hq K' hK' => ?_, ?_⟩
                · obtain ⟨d1, d2, d3, d4⟩ := hcl.out wq hq
                  go_wp2_with fail
                  exact hK'
                go_simp
                refine hK _ ?_
                clear hK K
                refine tree_p rfl rfl rfl rfl _ rfl (by simp) (fun K hK => ?_)
                apply Exists.intro
                refine ⟨fun wq K' hK' => ?_, ?_⟩
                · go_wp2_with fail
                  exact hK'
                go_simp
                refine hK _ ?_
                clear hK K
                refine tree_n rfl rfl _ rfl _ rfl ?_
                try go_simp
                refine tree_p rfl rfl rfl rfl _ rfl (by simp) (fun K hK => ?_)
                apply Exists.intro
                refine ⟨fun wq K' hK' => ?_, ?_⟩
                · go_wp2_with fail
                  exact hK'
                go_simp
                refine hK _ ?_
                clear hK K
                refine tree_b rfl rfl rfl rfl _ rfl (by simp) (fun K hK => ?_)
                apply Exists.intro
                refine ⟨fun wq hq K' hK' => ?_, ?_⟩
                · obtain ⟨d1, d2, d3, d4⟩ := hcl.out wq hq
                  go_wp2_with fail
                  exact hK'
                go_simp
                refine hK _ ?_
                clear hK K
                refine tree_p rfl rfl rfl rfl _ rfl (by simp) (fun K hK => ?_)
                apply Exists.intro
                refine ⟨fun wq K' hK' => ?_, ?_⟩
                · go_wp2_with fail
                  exact hK'
                go_simp
                refine hK _ ?_
                clear hK K
                refine tree_n rfl rfl _ rfl _ rfl ?_
                try go_simp
                refine tree_p rfl rfl rfl rfl _ rfl (by simp) (fun K hK => ?_)
                apply Exists.intro
                refine ⟨fun wq K' hK' => ?_, ?_⟩
                · go_wp2_with fail
                  exact hK'
                go_simp
                refine hK _ ?_
                clear hK K
                refine tree_b rfl rfl rfl rfl _ rfl (by simp) (fun K hK => ?_)
                apply Exists.intro
                refine ⟨fun wq hq K' hK' => ?_, ?_⟩
                · obtain ⟨d1, d2, d3, d4⟩ := hcl.out wq hq
                  go_wp2_with fail
                  exact hK'
                go_simp
                refine hK _ ?_
                clear hK K
                refine tree_p rfl rfl rfl rfl _ rfl (by simp) (fun K hK => ?_)
                apply Exists.intro
                refine ⟨fun wq K' hK' => ?_, ?_⟩
                · go_wp2_with fail
                  exact hK'
                go_simp
                refine hK _ ?_
                clear hK K
                refine tree_p rfl rfl rfl rfl _ rfl (by simp) (fun K hK => ?_)
                apply Exists.intro
                refine ⟨fun wq K' hK' => ?_, ?_⟩
                · go_wp2_with fail
                  exact hK'
                go_simp
                refine hK _ ?_
                clear hK K
                refine tree_e rfl rfl (fun K hK => ?_)
                go_wp2_with fail
                refine (hA1.out u0 (gr_trans hgu0 (World.grownBy.refl _ _))).mono ?_
                rintro e u15 ⟨rfl, hg15⟩
                go_wp2_with fail
                try go_simp
                refine hK _ _ (gr_trans hgu0 hg15) ?_
                clear hK K
                refine tree_p rfl rfl rfl rfl _ rfl (by simp) (fun K hK => ?_)
                apply Exists.intro
                refine ⟨fun wq K' hK' => ?_, ?_⟩
                · go_wp2_with fail
                  exact hK'
                go_simp
                refine hK _ ?_
                clear hK K
                refine tree_skip rfl rfl ?_
                try go_simp
                refine tree_skip rfl rfl ?_
                try go_simp
                refine tree_skip rfl rfl ?_
                try go_simp
                refine tree_skip rfl rfl ?_
                try go_simp
                refine tree_skip rfl rfl ?_
                try go_simp
                refine tree_skip rfl rfl ?_
                try go_simp
                refine tree_skip rfl rfl ?_
                try go_simp
                refine tree_skip rfl rfl ?_
                try go_simp
                refine tree_skip rfl rfl ?_
                try go_simp
                refine tree_skip rfl rfl ?_
                try go_simp
                refine tree_skip rfl rfl ?_
                try go_simp
                refine tree_skip rfl rfl ?_
                try go_simp
                refine tree_skip rfl rfl ?_
                try go_simp
                refine tree_skip rfl rfl ?_
                try go_simp
                refine tree_skip rfl rfl ?_
                try go_simp
                refine tree_eskip0 (by kernel_rfl) rfl rfl ?_
                try go_simp
                refine tree_p rfl rfl rfl rfl _ rfl (by simp) (fun K hK => ?_)
                apply Exists.intro
                refine ⟨fun wq K' hK' => ?_, ?_⟩
                · go_wp2_with fail
                  exact hK'
                go_simp
                refine hK _ ?_
                clear hK K
                refine tree_p rfl rfl rfl rfl _ rfl (by simp) (fun K hK => ?_)
                apply Exists.intro
                refine ⟨fun wq K' hK' => ?_, ?_⟩
                · go_wp2_with fail
                  exact hK'
                go_simp
                refine hK _ ?_
                clear hK K
                refine tree_skip rfl rfl ?_
                try go_simp
                refine tree_skip rfl rfl ?_
                try go_simp
                refine tree_skip rfl rfl ?_
                try go_simp
                refine tree_eskip0 (by kernel_rfl) rfl rfl ?_
                try go_simp
                refine tree_p rfl rfl rfl rfl _ rfl (by simp) (fun K hK => ?_)
                apply Exists.intro
                refine ⟨fun wq K' hK' => ?_, ?_⟩
                · go_wp2_with fail
                  exact hK'
                go_simp
                refine hK _ ?_
                clear hK K
                refine tree_p rfl rfl rfl rfl _ rfl (by simp) (fun K hK => ?_)
                apply Exists.intro
                refine ⟨fun wq K' hK' => ?_, ?_⟩
                · go_wp2_with fail
                  exact hK'
                go_simp
                refine hK _ ?_
                clear hK K
                refine tree_skip rfl rfl ?_
                try go_simp
                refine tree_skip rfl rfl ?_
                try go_simp
                refine tree_skip rfl rfl ?_
                try go_simp
                refine tree_eskip0 (by kernel_rfl) rfl rfl ?_
                try go_simp
                refine tree_p rfl rfl rfl rfl _ rfl (by simp) (fun K hK => ?_)
                apply Exists.intro
                refine ⟨fun wq K' hK' => ?_, ?_⟩
                · go_wp2_with fail
                  exact hK'
                go_simp
                refine hK _ ?_
                clear hK K
                refine tree_done ?_
                have hgz := gr_trans hgu0 hg15
                clear hcl
                go_wp2_with fail
                (go_roundw; (case rel => exact ⟨l, b + 1, _, c', by omega, by go_num, rfl, (hOl.pure hg19).pure hgz, hfin.out, (hI.pure hg19).pure hgz, hlt⟩); (case measure => simp [intOf]; omega))
              rcases hv2 : outB py P.y (P.y + P.high - 1) with _ | _
              rotate_left
              · have hfin := hide (hB.out.skip hlt hm9 (fun ha => by
                  rw [hnb2.out, hFi.out] at ha
                  exfalso
                  simp only [outB, Bool.or_eq_true, decide_eq_true_eq] at hv2
                  have := hPy.out; have := hPh.out; simp only at ha; omega))
                rw [hv1] at hA1
                rw [hv2] at hA2
                clear hv1 hv2
                refine wp_region_tree (fun wx => wy.grownBy wx none) [2, 2, 2, 2, 1, 2, 2, 2, 1, 2, 2, 2, 1, 2, 2, 0, 2, 2, 2, 2, 2, 1, 2, 2, 2, 1, 2, 2, 2, 1, 2, 2, 0, 2, 2, 2, 2, 2, 0, 2, 2, 2, 2, 2, 0, 2] (.bl 0 (.bl 1 (.bl 2 (.bl 3 (.bl 4 (.bl 5 (.bl 6 (.bl 7 (.bl 8 (.bl 9 (.bl 10 (.bl 11 (.bl 12 (.bl 13 (.bl 14 (.ef 15 (.bl 16 (.bl 17 (.bl 18 (.bl 19 (.bl 20 (.bl 21 (.bl 22 (.bl 23 (.bl 24 (.bl 25 (.bl 26 (.bl 27 (.bl 28 (.bl 29 (.bl 30 (.bl 31 (.ef 32 (.bl 33 (.bl 34 (.bl 35 (.bl 36 (.bl 37 (.ef 38 (.bl 39 (.bl 40 (.bl 41 (.bl 42 (.bl 43 (.ef 44 (.bl 45 .done)))))))))))))))))))))))))))))))))))))))))))))) (by kernel_rfl) (by kernel_rfl) (gr_drew (World.grownBy.refl _ _)) ?_
                obtain ⟨u0, hu0⟩ : ∃ x, x = (wy).drew := ⟨_, rfl⟩
                rw [← hu0]
                have hgu0 : (wy).grownBy u0 none := by rw [hu0]; exact gr_drew (World.grownBy.refl _ _)
                clear hu0
                refine tree_p rfl rfl rfl rfl _ rfl (by simp) (fun K hK => ?_)
                apply Exists.intro
                refine ⟨fun wq K' hK' => ?_, ?_⟩
                · go_wp2_with fail
                  exact hK'
                go_simp
                refine hK _ ?_
                clear hK K
                refine tree_p rfl rfl rfl rfl _ rfl (by simp) (fun K hK => ?_)
                apply Exists.intro
                refine ⟨fun wq K' hK' => ?_, ?_⟩
                · go_wp2_with fail
                  exact hK'
                go_simp
                refine hK _ ?_
                clear hK K
                refine tree_n rfl rfl _ rfl _ rfl ?_
                try go_simp
                refine tree_p rfl rfl rfl rfl _ rfl (by simp) (fun K hK => ?_)
                apply Exists.intro
                refine ⟨fun wq K' hK' => ?_, ?_⟩
                · go_wp2_with fail
                  exact hK'
                go_simp
                refine hK _ ?_
                clear hK K
                refine tree_b rfl rfl rfl rfl _ rfl (by simp) (fun K hK => ?_)
                apply Exists.intro
                refine ⟨fun wq hq K' hK' => ?_, ?_⟩
                · obtain ⟨d1, d2, d3, d4⟩ := hcl.out wq hq
                  go_wp2_with fail
                  exact hK'
                go_simp
                refine hK _ ?_
                clear hK K
                refine tree_p rfl rfl rfl rfl _ rfl (by simp) (fun K hK => ?_)
                apply Exists.intro
                refine ⟨fun wq K' hK' => ?_, ?_⟩
                · go_wp2_with fail
                  exact hK'
                go_simp
                refine hK _ ?_
                clear hK K
                refine tree_n rfl rfl _ rfl _ rfl ?_
                try go_simp
                refine tree_p rfl rfl rfl rfl _ rfl (by simp) (fun K hK => ?_)
                apply Exists.intro
                refine ⟨fun wq K' hK' => ?_, ?_⟩
                · go_wp2_with fail
                  exact hK'
                go_simp
                refine hK _ ?_
                clear hK K
                refine tree_b rfl rfl rfl rfl _ rfl (by simp) (fun K hK => ?_)
                apply Exists.intro
                refine ⟨fun wq hq K' hK' => ?_, ?_⟩
                · obtain ⟨d1, d2, d3, d4⟩ := hcl.out wq hq
                  go_wp2_with fail
                  exact hK'
                go_simp
                refine hK _ ?_
                clear hK K
                refine tree_p rfl rfl rfl rfl _ rfl (by simp) (fun K hK => ?_)
                apply Exists.intro
                refine ⟨fun wq K' hK' => ?_, ?_⟩
                · go_wp2_with fail
                  exact hK'
                go_simp
                refine hK _ ?_
                clear hK K
                refine tree_n rfl rfl _ rfl _ rfl ?_
                try go_simp
                refine tree_p rfl rfl rfl rfl _ rfl (by simp) (fun K hK => ?_)
                apply Exists.intro
                refine ⟨fun wq K' hK' => ?_, ?_⟩
                · go_wp2_with fail
                  exact hK'
                go_simp
                refine hK _ ?_
                clear hK K
                refine tree_b rfl rfl rfl rfl _ rfl (by simp) (fun K hK => ?_)
                apply Exists.intro
                refine ⟨fun wq hq K' hK' => ?_, ?_⟩
                · obtain ⟨d1, d2, d3, d4⟩ := hcl.out wq hq
                  go_wp2_with fail
                  exact hK'
                go_simp
                refine hK _ ?_
                clear hK K
                refine tree_p rfl rfl rfl rfl _ rfl (by simp) (fun K hK => ?_)
                apply Exists.intro
                refine ⟨fun wq K' hK' => ?_, ?_⟩
                · go_wp2_with fail
                  exact hK'
                go_simp
                refine hK _ ?_
                clear hK K
                refine tree_p rfl rfl rfl rfl _ rfl (by simp) (fun K hK => ?_)
                apply Exists.intro
                refine ⟨fun wq K' hK' => ?_, ?_⟩
                · go_wp2_with fail
                  exact hK'
                go_simp
                refine hK _ ?_
                clear hK K
                refine tree_e rfl rfl (fun K hK => ?_)
                go_wp2_with fail
                refine (hA1.out u0 (gr_trans hgu0 (World.grownBy.refl _ _))).mono ?_
                rintro e u15 ⟨rfl, hg15⟩
                go_wp2_with fail
                try go_simp
                refine hK _ _ (gr_trans hgu0 hg15) ?_
                clear hK K
                refine tree_p rfl rfl rfl rfl _ rfl (by simp) (fun K hK => ?_)
                apply Exists.intro
                refine ⟨fun wq K' hK' => ?_, ?_⟩
                · go_wp2_with fail
                  exact hK'
                go_simp
                refine hK _ ?_
                clear hK K
                refine tree_p rfl rfl rfl rfl _ rfl (by simp) (fun K hK => ?_)
                apply Exists.intro
                refine ⟨fun wq K' hK' => ?_, ?_⟩
                · go_wp2_with fail
                  exact hK'
                go_simp
                refine hK _ ?_
                clear hK K
                refine tree_p rfl rfl rfl rfl _ rfl (by simp) (fun K hK => ?_)
                apply Exists.intro
                refine ⟨fun wq K' hK' => ?_, ?_⟩
                · go_wp2_with fail
                  exact hK'
                go_simp
                refine hK _ ?_
                clear hK K
                refine tree_n rfl rfl _ rfl _ rfl ?_
                try go_simp
                refine tree_p rfl rfl rfl rfl _ rfl (by simp) (fun K hK => ?_)
                apply Exists.intro
                refine ⟨fun wq K' hK' => ?_, ?_⟩
                · go_wp2_with fail
                  exact hK'
                go_simp
                refine hK _ ?_
                clear hK K
                refine tree_b rfl rfl rfl rfl _ rfl (by simp) (fun K hK => ?_)
                apply Exists.intro
                refine ⟨fun wq hq K' hK' => ?_, ?_⟩
                · obtain ⟨d1, d2, d3, d4⟩ := hcl.out wq hq
                  go_wp2_with fail
                  exact hK'
                go_simp
                refine hK _ ?_
                clear hK K
                refine tree_p rfl rfl rfl rfl _ rfl (by simp) (fun K hK => ?_)
                apply Exists.intro
                refine ⟨fun wq K' hK' => ?_, ?_⟩
                · go_wp2_with fail
                  exact hK'
                go_simp
                refine hK _ ?_
                clear hK K
                refine tree_n rfl rfl _ rfl _ rfl ?_
                try go_simp
                refine tree_p rfl rfl rfl rfl _ rfl (by simp) (fun K hK => ?_)
                apply Exists.intro
                refine ⟨fun wq K' hK' => ?_, ?_⟩
                · go_wp2_with fail
                  exact hK'
                go_simp
                refine hK _ ?_
                clear hK K
                refine tree_b rfl rfl rfl rfl _ rfl (by simp) (fun K hK => ?_)
                apply Exists.intro
                refine ⟨fun wq hq K' hK' => ?_, ?_⟩
                · obtain ⟨d1, d2, d3, d4⟩ := hcl.out wq hq
                  go_wp2_with fail
                  exact hK'
                go_simp
                refine hK _ ?_
                clear hK K
                refine tree_p rfl rfl rfl rfl _ rfl (by simp) (fun K hK => ?_)
                apply Exists.intro
                refine ⟨fun wq K' hK' => ?_, ?_⟩
                · go_wp2_with fail
                  exact hK'
                go_simp
                refine hK _ ?_
                clear hK K
                refine tree_n rfl rfl _ rfl _ rfl ?_
                try go_simp
                refine tree_p rfl rfl rfl rfl _ rfl (by simp) (fun K hK => ?_)
                apply Exists.intro
                refine ⟨fun wq K' hK' => ?_, ?_⟩
                · go_wp2_with fail
                  exact hK'
                go_simp
                refine hK _ ?_
                clear hK K
                refine tree_b rfl rfl rfl rfl _ rfl (by simp) (fun K hK => ?_)
                apply Exists.intro
                refine ⟨fun wq hq K' hK' => ?_, ?_⟩
                · obtain ⟨d1, d2, d3, d4⟩ := hcl.out wq hq
                  go_wp2_with fail
                  exact hK'
                go_simp
                refine hK _ ?_
                clear hK K
                refine tree_p rfl rfl rfl rfl _ rfl (by simp) (fun K hK => ?_)
                apply Exists.intro
                refine ⟨fun wq K' hK' => ?_, ?_⟩
                · go_wp2_with fail
                  exact hK'
                go_simp
                refine hK _ ?_
                clear hK K
                refine tree_p rfl rfl rfl rfl _ rfl (by simp) (fun K hK => ?_)
                apply Exists.intro
                refine ⟨fun wq K' hK' => ?_, ?_⟩
                · go_wp2_with fail
                  exact hK'
                go_simp
                refine hK _ ?_
                clear hK K
                refine tree_e0 (by kernel_rfl) rfl rfl (fun K hK => ?_)
                go_wp2_with fail
                refine (hA2.out u15 (gr_trans hgu0 hg15)).mono ?_
                rintro e u32 ⟨rfl, hg32⟩
                go_wp2_with fail
                try go_simp
                refine hK _ _ trivial ?_
                clear hK K
                refine tree_p rfl rfl rfl rfl _ rfl (by simp) (fun K hK => ?_)
                apply Exists.intro
                refine ⟨fun wq K' hK' => ?_, ?_⟩
                · go_wp2_with fail
                  exact hK'
                go_simp
                refine hK _ ?_
                clear hK K
                refine tree_p rfl rfl rfl rfl _ rfl (by simp) (fun K hK => ?_)
                apply Exists.intro
                refine ⟨fun wq K' hK' => ?_, ?_⟩
                · go_wp2_with fail
                  exact hK'
                go_simp
                refine hK _ ?_
                clear hK K
                refine tree_skip rfl rfl ?_
                try go_simp
                refine tree_skip rfl rfl ?_
                try go_simp
                refine tree_skip rfl rfl ?_
                try go_simp
                refine tree_eskip0 (by kernel_rfl) rfl rfl ?_
                try go_simp
                refine tree_p rfl rfl rfl rfl _ rfl (by simp) (fun K hK => ?_)
                apply Exists.intro
                refine ⟨fun wq K' hK' => ?_, ?_⟩
                · go_wp2_with fail
                  exact hK'
                go_simp
                refine hK _ ?_
                clear hK K
                refine tree_p rfl rfl rfl rfl _ rfl (by simp) (fun K hK => ?_)
                apply Exists.intro
                refine ⟨fun wq K' hK' => ?_, ?_⟩
                · go_wp2_with fail
                  exact hK'
                go_simp
                refine hK _ ?_
                clear hK K
                refine tree_skip rfl rfl ?_
                try go_simp
                refine tree_skip rfl rfl ?_
                try go_simp
                refine tree_skip rfl rfl ?_
                try go_simp
                refine tree_eskip0 (by kernel_rfl) rfl rfl ?_
                try go_simp
                refine tree_p rfl rfl rfl rfl _ rfl (by simp) (fun K hK => ?_)
                apply Exists.intro
                refine ⟨fun wq K' hK' => ?_, ?_⟩
                · go_wp2_with fail
                  exact hK'
                go_simp
                refine hK _ ?_
                clear hK K
                refine tree_done ?_
                have hgz := gr_trans hgu0 (gr_trans hg15 hg32)
                clear hcl
                go_wp2_with fail
                (go_roundw; (case rel => exact ⟨l, b + 1, _, c', by omega, by go_num, rfl, (hOl.pure hg19).pure hgz, hfin.out, (hI.pure hg19).pure hgz, hlt⟩); (case measure => simp [intOf]; omega))
              rcases hv3 : G.at px py with _ | _
              rotate_left
              · have hfin := hide (hB.out.skip hlt hm9 (fun ha => by
                  rw [hnb2.out, hFi.out] at ha
                  exfalso
                  have := ha.2
                  simp only at this
                  rw [hv3] at this; cases this))
                rw [hv1] at hA1
                rw [hv2] at hA2
                rw [hv3] at hA3
                clear hv1 hv2 hv3
                refine wp_region_tree (fun wx => wy.grownBy wx none) [2, 2, 2, 2, 1, 2, 2, 2, 1, 2, 2, 2, 1, 2, 2, 0, 2, 2, 2, 2, 2, 1, 2, 2, 2, 1, 2, 2, 2, 1, 2, 2, 0, 2, 2, 2, 2, 2, 0, 2, 2, 2, 2, 2, 0, 2] (.bl 0 (.bl 1 (.bl 2 (.bl 3 (.bl 4 (.bl 5 (.bl 6 (.bl 7 (.bl 8 (.bl 9 (.bl 10 (.bl 11 (.bl 12 (.bl 13 (.bl 14 (.ef 15 (.bl 16 (.bl 17 (.bl 18 (.bl 19 (.bl 20 (.bl 21 (.bl 22 (.bl 23 (.bl 24 (.bl 25 (.bl 26 (.bl 27 (.bl 28 (.bl 29 (.bl 30 (.bl 31 (.ef 32 (.bl 33 (.bl 34 (.bl 35 (.bl 36 (.bl 37 (.ef 38 (.bl 39 (.bl 40 (.bl 41 (.bl 42 (.bl 43 (.ef 44 (.bl 45 .done)))))))))))))))))))))))))))))))))))))))))))))) (by kernel_rfl) (by kernel_rfl) (gr_drew (World.grownBy.refl _ _)) ?_
                obtain ⟨u0, hu0⟩ : ∃ x, x = (wy).drew := ⟨_, rfl⟩
                rw [← hu0]
                have hgu0 : (wy).grownBy u0 none := by rw [hu0]; exact gr_drew (World.grownBy.refl _ _)
                clear hu0
                refine tree_p rfl rfl rfl rfl _ rfl (by simp) (fun K hK => ?_)
                apply Exists.intro
                refine ⟨fun wq K' hK' => ?_, ?_⟩
                · go_wp2_with fail
                  exact hK'
                go_simp
                refine hK _ ?_
                clear hK K
                refine tree_p rfl rfl rfl rfl _ rfl (by simp) (fun K hK => ?_)
                apply Exists.intro
                refine ⟨fun wq K' hK' => ?_, ?_⟩
                · go_wp2_with fail
                  exact hK'
                go_simp
                refine hK _ ?_
                clear hK K
                refine tree_n rfl rfl _ rfl _ rfl ?_
                try go_simp
                refine tree_p rfl rfl rfl rfl _ rfl (by simp) (fun K hK => ?_)
                apply Exists.intro
                refine ⟨fun wq K' hK' => ?_, ?_⟩
                · go_wp2_with fail
                  exact hK'
                go_simp
                refine hK _ ?_
                clear hK K
                refine tree_b rfl rfl rfl rfl _ rfl (by simp) (fun K hK => ?_)
                apply Exists.intro
                refine ⟨fun wq hq K' hK' => ?_, ?_⟩
                · obtain ⟨d1, d2, d3, d4⟩ := hcl.out wq hq
                  go_wp2_with fail
                  exact hK'
                go_simp
                refine hK _ ?_
                clear hK K
                refine tree_p rfl rfl rfl rfl _ rfl (by simp) (fun K hK => ?_)
                apply Exists.intro
                refine ⟨fun wq K' hK' => ?_, ?_⟩
                · go_wp2_with fail
                  exact hK'
                go_simp
                refine hK _ ?_
                clear hK K
                refine tree_n rfl rfl _ rfl _ rfl ?_
                try go_simp
                refine tree_p rfl rfl rfl rfl _ rfl (by simp) (fun K hK => ?_)
                apply Exists.intro
                refine ⟨fun wq K' hK' => ?_, ?_⟩
                · go_wp2_with fail
                  exact hK'
                go_simp
                refine hK _ ?_
                clear hK K
                refine tree_b rfl rfl rfl rfl _ rfl (by simp) (fun K hK => ?_)
                apply Exists.intro
                refine ⟨fun wq hq K' hK' => ?_, ?_⟩
                · obtain ⟨d1, d2, d3, d4⟩ := hcl.out wq hq
                  go_wp2_with fail
                  exact hK'
                go_simp
                refine hK _ ?_
                clear hK K
                refine tree_p rfl rfl rfl rfl _ rfl (by simp) (fun K hK => ?_)
                apply Exists.intro
                refine ⟨fun wq K' hK' => ?_, ?_⟩
                · go_wp2_with fail
                  exact hK'
                go_simp
                refine hK _ ?_
                clear hK K
                refine tree_n rfl rfl _ rfl _ rfl ?_
                try go_simp
                refine tree_p rfl rfl rfl rfl _ rfl (by simp) (fun K hK => ?_)
                apply Exists.intro
                refine ⟨fun wq K' hK' => ?_, ?_⟩
                · go_wp2_with fail
                  exact hK'
                go_simp
                refine hK _ ?_
                clear hK K
                refine tree_b rfl rfl rfl rfl _ rfl (by simp) (fun K hK => ?_)
                apply Exists.intro
                refine ⟨fun wq hq K' hK' => ?_, ?_⟩
                · obtain ⟨d1, d2, d3, d4⟩ := hcl.out wq hq
                  go_wp2_with fail
                  exact hK'
                go_simp
                refine hK _ ?_
                clear hK K
                refine tree_p rfl rfl rfl rfl _ rfl (by simp) (fun K hK => ?_)
                apply Exists.intro
                refine ⟨fun wq K' hK' => ?_, ?_⟩
                · go_wp2_with fail
                  exact hK'
                go_simp
                refine hK _ ?_
                clear hK K
                refine tree_p rfl rfl rfl rfl _ rfl (by simp) (fun K hK => ?_)
                apply Exists.intro
                refine ⟨fun wq K' hK' => ?_, ?_⟩
                · go_wp2_with fail
                  exact hK'
                go_simp
                refine hK _ ?_
                clear hK K
                refine tree_e rfl rfl (fun K hK => ?_)
                go_wp2_with fail
                refine (hA1.out u0 (gr_trans hgu0 (World.grownBy.refl _ _))).mono ?_
                rintro e u15 ⟨rfl, hg15⟩
                go_wp2_with fail
                try go_simp
                refine hK _ _ (gr_trans hgu0 hg15) ?_
                clear hK K
                refine tree_p rfl rfl rfl rfl _ rfl (by simp) (fun K hK => ?_)
                apply Exists.intro
                refine ⟨fun wq K' hK' => ?_, ?_⟩
                · go_wp2_with fail
                  exact hK'
                go_simp
                refine hK _ ?_
                clear hK K
                refine tree_p rfl rfl rfl rfl _ rfl (by simp) (fun K hK => ?_)
                apply Exists.intro
                refine ⟨fun wq K' hK' => ?_, ?_⟩
                · go_wp2_with fail
                  exact hK'
                go_simp
                refine hK _ ?_
                clear hK K
                refine tree_p rfl rfl rfl rfl _ rfl (by simp) (fun K hK => ?_)
                apply Exists.intro
                refine ⟨fun wq K' hK' => ?_, ?_⟩
                · go_wp2_with fail
                  exact hK'
                go_simp
                refine hK _ ?_
                clear hK K
                refine tree_n rfl rfl _ rfl _ rfl ?_
                try go_simp
                refine tree_p rfl rfl rfl rfl _ rfl (by simp) (fun K hK => ?_)
                apply Exists.intro
                refine ⟨fun wq K' hK' => ?_, ?_⟩
                · go_wp2_with fail
                  exact hK'
                go_simp
                refine hK _ ?_
                clear hK K
                refine tree_b rfl rfl rfl rfl _ rfl (by simp) (fun K hK => ?_)
                apply Exists.intro
                refine ⟨fun wq hq K' hK' => ?_, ?_⟩
                · obtain ⟨d1, d2, d3, d4⟩ := hcl.out wq hq
                  go_wp2_with fail
                  exact hK'
                go_simp
                refine hK _ ?_
                clear hK K
                refine tree_p rfl rfl rfl rfl _ rfl (by simp) (fun K hK => ?_)
                apply Exists.intro
                refine ⟨fun wq K' hK' => ?_, ?_⟩
                · go_wp2_with fail
                  exact hK'
                go_simp
                refine hK _ ?_
                clear hK K
                refine tree_n rfl rfl _ rfl _ rfl ?_
                try go_simp
                refine tree_p rfl rfl rfl rfl _ rfl (by simp) (fun K hK => ?_)
                apply Exists.intro
                refine ⟨fun wq K' hK' => ?_, ?_⟩
                · go_wp2_with fail
                  exact hK'
                go_simp
                refine hK _ ?_
                clear hK K
                refine tree_b rfl rfl rfl rfl _ rfl (by simp) (fun K hK => ?_)
                apply Exists.intro
                refine ⟨fun wq hq K' hK' => ?_, ?_⟩
                · obtain ⟨d1, d2, d3, d4⟩ := hcl.out wq hq
                  go_wp2_with fail
                  exact hK'
                go_simp
                refine hK _ ?_
                clear hK K
                refine tree_p rfl rfl rfl rfl _ rfl (by simp) (fun K hK => ?_)
                apply Exists.intro
                refine ⟨fun wq K' hK' => ?_, ?_⟩
                · go_wp2_with fail
                  exact hK'
                go_simp
                refine hK _ ?_
                clear hK K
                refine tree_n rfl rfl _ rfl _ rfl ?_
                try go_simp
                refine tree_p rfl rfl rfl rfl _ rfl (by simp) (fun K hK => ?_)
                apply Exists.intro
                refine ⟨fun wq K' hK' => ?_, ?_⟩
                · go_wp2_with fail
                  exact hK'
                go_simp
                refine hK _ ?_
                clear hK K
                refine tree_b rfl rfl rfl rfl _ rfl (by simp) (fun K hK => ?_)
                apply Exists.intro
                refine ⟨fun wq hq K' hK' => ?_, ?_⟩
                · obtain ⟨d1, d2, d3, d4⟩ := hcl.out wq hq
                  go_wp2_with fail
                  exact hK'
                go_simp
                refine hK _ ?_
                clear hK K
                refine tree_p rfl rfl rfl rfl _ rfl (by simp) (fun K hK => ?_)
                apply Exists.intro
                refine ⟨fun wq K' hK' => ?_, ?_⟩
                · go_wp2_with fail
                  exact hK'
                go_simp
                refine hK _ ?_
                clear hK K
                refine tree_p rfl rfl rfl rfl _ rfl (by simp) (fun K hK => ?_)
                apply Exists.intro
                refine ⟨fun wq K' hK' => ?_, ?_⟩
                · go_wp2_with fail
                  exact hK'
                go_simp
                refine hK _ ?_
                clear hK K
                refine tree_e0 (by kernel_rfl) rfl rfl (fun K hK => ?_)
                go_wp2_with fail
                refine (hA2.out u15 (gr_trans hgu0 hg15)).mono ?_
                rintro e u32 ⟨rfl, hg32⟩
                go_wp2_with fail
                try go_simp
                refine hK _ _ trivial ?_
                clear hK K
                refine tree_p rfl rfl rfl rfl _ rfl (by simp) (fun K hK => ?_)
                apply Exists.intro
                refine ⟨fun wq K' hK' => ?_, ?_⟩
                · go_wp2_with fail
                  exact hK'
                go_simp
                refine hK _ ?_
                clear hK K
                refine tree_p rfl rfl rfl rfl _ rfl (by simp) (fun K hK => ?_)
                apply Exists.intro
                refine ⟨fun wq K' hK' => ?_, ?_⟩
                · go_wp2_with fail
                  exact hK'
                go_simp
                refine hK _ ?_
                clear hK K
                refine tree_p rfl rfl rfl rfl _ rfl (by simp) (fun K hK => ?_)
                apply Exists.intro
                refine ⟨fun wq K' hK' => ?_, ?_⟩
                · go_wp2_with fail
                  exact hK'
                go_simp
                refine hK _ ?_
                clear hK K
                refine tree_p rfl rfl rfl rfl _ rfl (by simp) (fun K hK => ?_)
                apply Exists.intro
                refine ⟨fun wq K' hK' => ?_, ?_⟩
                · go_wp2_with fail
                  exact hK'
                go_simp
                refine hK _ ?_
                clear hK K
                refine tree_p rfl rfl rfl rfl _ rfl (by simp) (fun K hK => ?_)
                apply Exists.intro
                refine ⟨fun wq K' hK' => ?_, ?_⟩
                · go_wp2_with fail
                  exact hK'
                go_simp
                refine hK _ ?_
                clear hK K
                refine tree_e0 (by kernel_rfl) rfl rfl (fun K hK => ?_)
                go_wp2_with fail
                refine (hA3.out u32 (gr_trans hgu0 (gr_trans hg15 hg32))).mono ?_
                rintro e u38 ⟨rfl, hg38⟩
                go_wp2_with fail
                try go_simp
                refine hK _ _ trivial ?_
                clear hK K
                refine tree_p rfl rfl rfl rfl _ rfl (by simp) (fun K hK => ?_)
                apply Exists.intro
                refine ⟨fun wq K' hK' => ?_, ?_⟩
                · go_wp2_with fail
                  exact hK'
                go_simp
                refine hK _ ?_
                clear hK K
                refine tree_p rfl rfl rfl rfl _ rfl (by simp) (fun K hK => ?_)
                apply Exists.intro
                refine ⟨fun wq K' hK' => ?_, ?_⟩
                · go_wp2_with fail
                  exact hK'
                go_simp
                refine hK _ ?_
                clear hK K
                refine tree_skip rfl rfl ?_
                try go_simp
                refine tree_skip rfl rfl ?_
                try go_simp
                refine tree_skip rfl rfl ?_
                try go_simp
                refine tree_eskip0 (by kernel_rfl) rfl rfl ?_
                try go_simp
                refine tree_p rfl rfl rfl rfl _ rfl (by simp) (fun K hK => ?_)
                apply Exists.intro
                refine ⟨fun wq K' hK' => ?_, ?_⟩
                · go_wp2_with fail
                  exact hK'
                go_simp
                refine hK _ ?_
                clear hK K
                refine tree_done ?_
                have hgz := gr_trans hgu0 (gr_trans (gr_trans hg15 hg32) hg38)
                clear hcl
                go_wp2_with fail
                (go_roundw; (case rel => exact ⟨l, b + 1, _, c', by omega, by go_num, rfl, (hOl.pure hg19).pure hgz, hfin.out, (hI.pure hg19).pure hgz, hlt⟩); (case measure => simp [intOf]; omega))
              rcases hv4 : (P.at px py || memL l px py) with _ | _
              rotate_left
              · have hfin := hide (hB.out.skip hlt hm9 (fun ha => by
                  left
                  rw [hnb2.out]
                  rw [hPa.out, Bool.false_or] at hv4
                  exact (memL_iff (q := ⟨px, py⟩)).1 hv4))
                rw [hv1] at hA1
                rw [hv2] at hA2
                rw [hv3] at hA3
                rw [hv4] at hA4
                clear hv1 hv2 hv3 hv4
                refine wp_region_tree (fun wx => wy.grownBy wx none) [2, 2, 2, 2, 1, 2, 2, 2, 1, 2, 2, 2, 1, 2, 2, 0, 2, 2, 2, 2, 2, 1, 2, 2, 2, 1, 2, 2, 2, 1, 2, 2, 0, 2, 2, 2, 2, 2, 0, 2, 2, 2, 2, 2, 0, 2] (.bl 0 (.bl 1 (.bl 2 (.bl 3 (.bl 4 (.bl 5 (.bl 6 (.bl 7 (.bl 8 (.bl 9 (.bl 10 (.bl 11 (.bl 12 (.bl 13 (.bl 14 (.ef 15 (.bl 16 (.bl 17 (.bl 18 (.bl 19 (.bl 20 (.bl 21 (.bl 22 (.bl 23 (.bl 24 (.bl 25 (.bl 26 (.bl 27 (.bl 28 (.bl 29 (.bl 30 (.bl 31 (.ef 32 (.bl 33 (.bl 34 (.bl 35 (.bl 36 (.bl 37 (.ef 38 (.bl 39 (.bl 40 (.bl 41 (.bl 42 (.bl 43 (.ef 44 (.bl 45 .done)))))))))))))))))))))))))))))))))))))))))))))) (by kernel_rfl) (by kernel_rfl) (gr_drew (World.grownBy.refl _ _)) ?_
                obtain ⟨u0, hu0⟩ : ∃ x, x = (wy).drew := ⟨_, rfl⟩
                rw [← hu0]
                have hgu0 : (wy).grownBy u0 none := by rw [hu0]; exact gr_drew (World.grownBy.refl _ _)
                clear hu0
                refine tree_p rfl rfl rfl rfl _ rfl (by simp) (fun K hK => ?_)
                apply Exists.intro
                refine ⟨fun wq K' hK' => ?_, ?_⟩
                · go_wp2_with fail
                  exact hK'
                go_simp
                refine hK _ ?_
                clear hK K
                refine tree_p rfl rfl rfl rfl _ rfl (by simp) (fun K hK => ?_)
                apply Exists.intro
                refine ⟨fun wq K' hK' => ?_, ?_⟩
                · go_wp2_with fail
                  exact hK'
                go_simp
                refine hK _ ?_
                clear hK K
                refine tree_n rfl rfl _ rfl _ rfl ?_
                try go_simp
                refine tree_p rfl rfl rfl rfl _ rfl (by simp) (fun K hK => ?_)
                apply Exists.intro
                refine ⟨fun wq K' hK' => ?_, ?_⟩
                · go_wp2_with fail
                  exact hK'
                go_simp
                refine hK _ ?_
                clear hK K
                refine tree_b rfl rfl rfl rfl _ rfl (by simp) (fun K hK => ?_)
                apply Exists.intro
                refine ⟨fun wq hq K' hK' => ?_, ?_⟩
                · obtain ⟨d1, d2, d3, d4⟩ := hcl.out wq hq
                  go_wp2_with fail
                  exact hK'
                go_simp
                refine hK _ ?_
                clear hK K
                refine tree_p rfl rfl rfl rfl _ rfl (by simp) (fun K hK => ?_)
                apply Exists.intro
                refine ⟨fun wq K' hK' => ?_, ?_⟩
                · go_wp2_with fail
                  exact hK'
                go_simp
                refine hK _ ?_
                clear hK K
                refine tree_n rfl rfl _ rfl _ rfl ?_
                try go_simp
                refine tree_p rfl rfl rfl rfl _ rfl (by simp) (fun K hK => ?_)
                apply Exists.intro
                refine ⟨fun wq K' hK' => ?_, ?_⟩
                · go_wp2_with fail
                  exact hK'
                go_simp
                refine hK _ ?_
                clear hK K
                refine tree_b rfl rfl rfl rfl _ rfl (by simp) (fun K hK => ?_)
                apply Exists.intro
                refine ⟨fun wq hq K' hK' => ?_, ?_⟩
                · obtain ⟨d1, d2, d3, d4⟩ := hcl.out wq hq
                  go_wp2_with fail
                  exact hK'
                go_simp
                refine hK _ ?_
                clear hK K
                refine tree_p rfl rfl rfl rfl _ rfl (by simp) (fun K hK => ?_)
                apply Exists.intro
                refine ⟨fun wq K' hK' => ?_, ?_⟩
                · go_wp2_with fail
                  exact hK'
                go_simp
                refine hK _ ?_
                clear hK K
                refine tree_n rfl rfl _ rfl _ rfl ?_
                try go_simp
                refine tree_p rfl rfl rfl rfl _ rfl (by simp) (fun K hK => ?_)
                apply Exists.intro
                refine ⟨fun wq K' hK' => ?_, ?_⟩
                · go_wp2_with fail
                  exact hK'
                go_simp
                refine hK _ ?_
                clear hK K
                refine tree_b rfl rfl rfl rfl _ rfl (by simp) (fun K hK => ?_)
                apply Exists.intro
                refine ⟨fun wq hq K' hK' => ?_, ?_⟩
                · obtain ⟨d1, d2, d3, d4⟩ := hcl.out wq hq
                  go_wp2_with fail
                  exact hK'
                go_simp
                refine hK _ ?_
                clear hK K
                refine tree_p rfl rfl rfl rfl _ rfl (by simp) (fun K hK => ?_)
                apply Exists.intro
                refine ⟨fun wq K' hK' => ?_, ?_⟩
                · go_wp2_with fail
                  exact hK'
                go_simp
                refine hK _ ?_
                clear hK K
                refine tree_p rfl rfl rfl rfl _ rfl (by simp) (fun K hK => ?_)
                apply Exists.intro
                refine ⟨fun wq K' hK' => ?_, ?_⟩
                · go_wp2_with fail
                  exact hK'
                go_simp
                refine hK _ ?_
                clear hK K
                refine tree_e rfl rfl (fun K hK => ?_)
                go_wp2_with fail
                refine (hA1.out u0 (gr_trans hgu0 (World.grownBy.refl _ _))).mono ?_
                rintro e u15 ⟨rfl, hg15⟩
                go_wp2_with fail
                try go_simp
                refine hK _ _ (gr_trans hgu0 hg15) ?_
                clear hK K
                refine tree_p rfl rfl rfl rfl _ rfl (by simp) (fun K hK => ?_)
                apply Exists.intro
                refine ⟨fun wq K' hK' => ?_, ?_⟩
                · go_wp2_with fail
                  exact hK'
                go_simp
                refine hK _ ?_
                clear hK K
                refine tree_p rfl rfl rfl rfl _ rfl (by simp) (fun K hK => ?_)
                apply Exists.intro
                refine ⟨fun wq K' hK' => ?_, ?_⟩
                · go_wp2_with fail
                  exact hK'
                go_simp
                refine hK _ ?_
                clear hK K
                refine tree_p rfl rfl rfl rfl _ rfl (by simp) (fun K hK => ?_)
                apply Exists.intro
                refine ⟨fun wq K' hK' => ?_, ?_⟩
                · go_wp2_with fail
                  exact hK'
                go_simp
                refine hK _ ?_
                clear hK K
                refine tree_n rfl rfl _ rfl _ rfl ?_
                try go_simp
                refine tree_p rfl rfl rfl rfl _ rfl (by simp) (fun K hK => ?_)
                apply Exists.intro
                refine ⟨fun wq K' hK' => ?_, ?_⟩
                · go_wp2_with fail
                  exact hK'
                go_simp
                refine hK _ ?_
                clear hK K
                refine tree_b rfl rfl rfl rfl _ rfl (by simp) (fun K hK => ?_)
                apply Exists.intro
                refine ⟨fun wq hq K' hK' => ?_, ?_⟩
                · obtain ⟨d1, d2, d3, d4⟩ := hcl.out wq hq
                  go_wp2_with fail
                  exact hK'
                go_simp
                refine hK _ ?_
                clear hK K
                refine tree_p rfl rfl rfl rfl _ rfl (by simp) (fun K hK => ?_)
                apply Exists.intro
                refine ⟨fun wq K' hK' => ?_, ?_⟩
                · go_wp2_with fail
                  exact hK'
                go_simp
                refine hK _ ?_
                clear hK K
                refine tree_n rfl rfl _ rfl _ rfl ?_
                try go_simp
                refine tree_p rfl rfl rfl rfl _ rfl (by simp) (fun K hK => ?_)
                apply Exists.intro
                refine ⟨fun wq K' hK' => ?_, ?_⟩
                · go_wp2_with fail
                  exact hK'
                go_simp
                refine hK _ ?_
                clear hK K
                refine tree_b rfl rfl rfl rfl _ rfl (by simp) (fun K hK => ?_)
                apply Exists.intro
                refine ⟨fun wq hq K' hK' => ?_, ?_⟩
                · obtain ⟨d1, d2, d3, d4⟩ := hcl.out wq hq
                  go_wp2_with fail
                  exact hK'
                go_simp
                refine hK _ ?_
                clear hK K
                refine tree_p rfl rfl rfl rfl _ rfl (by simp) (fun K hK => ?_)
                apply Exists.intro
                refine ⟨fun wq K' hK' => ?_, ?_⟩
                · go_wp2_with fail
                  exact hK'
                go_simp
                refine hK _ ?_
                clear hK K
                refine tree_n rfl rfl _ rfl _ rfl ?_
                try go_simp
                refine tree_p rfl rfl rfl rfl _ rfl (by simp) (fun K hK => ?_)
                apply Exists.intro
                refine ⟨fun wq K' hK' => ?_, ?_⟩
                · go_wp2_with fail
                  exact hK'
                go_simp
                refine hK _ ?_
                clear hK K
                refine tree_b rfl rfl rfl rfl _ rfl (by simp) (fun K hK => ?_)
                apply Exists.intro
                refine ⟨fun wq hq K' hK' => ?_, ?_⟩
                · obtain ⟨d1, d2, d3, d4⟩ := hcl.out wq hq
                  go_wp2_with fail
                  exact hK'
                go_simp
                refine hK _ ?_
                clear hK K
                refine tree_p rfl rfl rfl rfl _ rfl (by simp) (fun K hK => ?_)
                apply Exists.intro
                refine ⟨fun wq K' hK' => ?_, ?_⟩
                · go_wp2_with fail
                  exact hK'
                go_simp
                refine hK _ ?_
                clear hK K
                refine tree_p rfl rfl rfl rfl _ rfl (by simp) (fun K hK => ?_)
                apply Exists.intro
                refine ⟨fun wq K' hK' => ?_, ?_⟩
                · go_wp2_with fail
                  exact hK'
                go_simp
                refine hK _ ?_
                clear hK K
                refine tree_e0 (by kernel_rfl) rfl rfl (fun K hK => ?_)
                go_wp2_with fail
                refine (hA2.out u15 (gr_trans hgu0 hg15)).mono ?_
                rintro e u32 ⟨rfl, hg32⟩
                go_wp2_with fail
                try go_simp
                refine hK _ _ trivial ?_
                clear hK K
                refine tree_p rfl rfl rfl rfl _ rfl (by simp) (fun K hK => ?_)
                apply Exists.intro
                refine ⟨fun wq K' hK' => ?_, ?_⟩
                · go_wp2_with fail
                  exact hK'
                go_simp
                refine hK _ ?_
                clear hK K
                refine tree_p rfl rfl rfl rfl _ rfl (by simp) (fun K hK => ?_)
                apply Exists.intro
                refine ⟨fun wq K' hK' => ?_, ?_⟩
                · go_wp2_with fail
                  exact hK'
                go_simp
                refine hK _ ?_
                clear hK K
                refine tree_p rfl rfl rfl rfl _ rfl (by simp) (fun K hK => ?_)
                apply Exists.intro
                refine ⟨fun wq K' hK' => ?_, ?_⟩
                · go_wp2_with fail
                  exact hK'
                go_simp
                refine hK _ ?_
                clear hK K
                refine tree_p rfl rfl rfl rfl _ rfl (by simp) (fun K hK => ?_)
                apply Exists.intro
                refine ⟨fun wq K' hK' => ?_, ?_⟩
                · go_wp2_with fail
                  exact hK'
                go_simp
                refine hK _ ?_
                clear hK K
                refine tree_p rfl rfl rfl rfl _ rfl (by simp) (fun K hK => ?_)
                apply Exists.intro
                refine ⟨fun wq K' hK' => ?_, ?_⟩
                · go_wp2_with fail
                  exact hK'
                go_simp
                refine hK _ ?_
                clear hK K
                refine tree_e0 (by kernel_rfl) rfl rfl (fun K hK => ?_)
                go_wp2_with fail
                refine (hA3.out u32 (gr_trans hgu0 (gr_trans hg15 hg32))).mono ?_
                rintro e u38 ⟨rfl, hg38⟩
                go_wp2_with fail
                try go_simp
                refine hK _ _ trivial ?_
                clear hK K
                refine tree_p rfl rfl rfl rfl _ rfl (by simp) (fun K hK => ?_)
                apply Exists.intro
                refine ⟨fun wq K' hK' => ?_, ?_⟩
                · go_wp2_with fail
                  exact hK'
                go_simp
                refine hK _ ?_
                clear hK K
                refine tree_p rfl rfl rfl rfl _ rfl (by simp) (fun K hK => ?_)
                apply Exists.intro
                refine ⟨fun wq K' hK' => ?_, ?_⟩
                · go_wp2_with fail
                  exact hK'
                go_simp
                refine hK _ ?_
                clear hK K
                refine tree_p rfl rfl rfl rfl _ rfl (by simp) (fun K hK => ?_)
                apply Exists.intro
                refine ⟨fun wq K' hK' => ?_, ?_⟩
                · go_wp2_with fail
                  exact hK'
                go_simp
                refine hK _ ?_
                clear hK K
                refine tree_p rfl rfl rfl rfl _ rfl (by simp) (fun K hK => ?_)
                apply Exists.intro
                refine ⟨fun wq K' hK' => ?_, ?_⟩
                · go_wp2_with fail
                  exact hK'
                go_simp
                refine hK _ ?_
                clear hK K
                refine tree_p rfl rfl rfl rfl _ rfl (by simp) (fun K hK => ?_)
                apply Exists.intro
                refine ⟨fun wq K' hK' => ?_, ?_⟩
                · go_wp2_with fail
                  exact hK'
                go_simp
                refine hK _ ?_
                clear hK K
                refine tree_e0 (by kernel_rfl) rfl rfl (fun K hK => ?_)
                go_wp2_with fail
                refine (hA4.out u38 (gr_trans hgu0 (gr_trans (gr_trans hg15 hg32) hg38))).mono ?_
                rintro e u44 ⟨rfl, hg44⟩
                go_wp2_with fail
                try go_simp
                refine hK _ _ trivial ?_
                clear hK K
                refine tree_p rfl rfl rfl rfl _ rfl (by simp) (fun K hK => ?_)
                apply Exists.intro
                refine ⟨fun wq K' hK' => ?_, ?_⟩
                · go_wp2_with fail
                  exact hK'
                go_simp
                refine hK _ ?_
                clear hK K
                refine tree_done ?_
                have hgz := gr_trans hgu0 (gr_trans (gr_trans (gr_trans hg15 hg32) hg38) hg44)
                clear hcl
                go_wp2_with fail
                (go_roundw; (case rel => exact ⟨l, b + 1, _, c', by omega, by go_num, rfl, (hOl.pure hg19).pure hgz, hfin.out, (hI.pure hg19).pure hgz, hlt⟩); (case measure => simp [intOf]; omega))
              · have hFp : Fr px py = true := by
                  rw [hFi.out]
                  simp only [outB, Bool.or_eq_false_iff, decide_eq_false_iff_not] at hv1 hv2
                  have := hPx.out; have := hPw.out; have := hPy.out; have := hPh.out
                  exact ⟨by omega, hv3⟩
                have hnl : (⟨px, py⟩ : Pt) ∉ l := fun h => by
                  rw [← memL_iff] at h
                  rw [Bool.or_eq_false_iff] at hv4
                  rw [hv4.2] at h; cases h
                have hPin : Hid (P.In px py) := by
                  have hF2 := ((hFi.out px py).1 hFp).1
                  have := hPx.out; have := hPw.out; have := hPy.out; have := hPh.out
                  rw [Hid]
                  unfold Grd.In
                  omega
                have hfin := hide (hB.out.push hlt hm9 hnb2.out.symm hFp hnl rfl)
                have hl1 : l.length + 1 ≤ N := by
                  have := hlbb.out (l ++ [⟨px, py⟩]) hfin.out.rch hfin.out.nd
                  simpa using this
                rw [hv1] at hA1
                rw [hv2] at hA2
                rw [hv3] at hA3
                rw [hv4] at hA4
                clear hv1 hv2 hv3 hv4 hFp hnl
                refine wp_region_tree (fun wx => wy.grownBy wx none) [2, 2, 2, 2, 1, 2, 2, 2, 1, 2, 2, 2, 1, 2, 2, 0, 2, 2, 2, 2, 2, 1, 2, 2, 2, 1, 2, 2, 2, 1, 2, 2, 0, 2, 2, 2, 2, 2, 0, 2, 2, 2, 2, 2, 0, 2] (.bl 0 (.bl 1 (.bl 2 (.bl 3 (.bl 4 (.bl 5 (.bl 6 (.bl 7 (.bl 8 (.bl 9 (.bl 10 (.bl 11 (.bl 12 (.bl 13 (.bl 14 (.ef 15 (.bl 16 (.bl 17 (.bl 18 (.bl 19 (.bl 20 (.bl 21 (.bl 22 (.bl 23 (.bl 24 (.bl 25 (.bl 26 (.bl 27 (.bl 28 (.bl 29 (.bl 30 (.bl 31 (.ef 32 (.bl 33 (.bl 34 (.bl 35 (.bl 36 (.bl 37 (.ef 38 (.bl 39 (.bl 40 (.bl 41 (.bl 42 (.bl 43 (.ef 44 (.bl 45 .done)))))))))))))))))))))))))))))))))))))))))))))) (by kernel_rfl) (by kernel_rfl) (gr_drew (World.grownBy.refl _ _)) ?_
                obtain ⟨u0, hu0⟩ : ∃ x, x = (wy).drew := ⟨_, rfl⟩
                rw [← hu0]
                have hgu0 : (wy).grownBy u0 none := by rw [hu0]; exact gr_drew (World.grownBy.refl _ _)
                clear hu0
                refine tree_p rfl rfl rfl rfl _ rfl (by simp) (fun K hK => ?_)
                apply Exists.intro
                refine ⟨fun wq K' hK' => ?_, ?_⟩
                · go_wp2_with fail
                  exact hK'
                go_simp
                refine hK _ ?_
                clear hK K
                refine tree_p rfl rfl rfl rfl _ rfl (by simp) (fun K hK => ?_)
                apply Exists.intro
                refine ⟨fun wq K' hK' => ?_, ?_⟩
                · go_wp2_with fail
                  exact hK'
                go_simp
                refine hK _ ?_
                clear hK K
                refine tree_n rfl rfl _ rfl _ rfl ?_
                try go_simp
                refine tree_p rfl rfl rfl rfl _ rfl (by simp) (fun K hK => ?_)
                apply Exists.intro
                refine ⟨fun wq K' hK' => ?_, ?_⟩
                · go_wp2_with fail
                  exact hK'
                go_simp
                refine hK _ ?_
                clear hK K
                refine tree_b rfl rfl rfl rfl _ rfl (by simp) (fun K hK => ?_)
                apply Exists.intro
                refine ⟨fun wq hq K' hK' => ?_, ?_⟩
                · obtain ⟨d1, d2, d3, d4⟩ := hcl.out wq hq
                  go_wp2_with fail
                  exact hK'
                go_simp
                refine hK _ ?_
                clear hK K
                refine tree_p rfl rfl rfl rfl _ rfl (by simp) (fun K hK => ?_)
                apply Exists.intro
                refine ⟨fun wq K' hK' => ?_, ?_⟩
                · go_wp2_with fail
                  exact hK'
                go_simp
                refine hK _ ?_
                clear hK K
                refine tree_n rfl rfl _ rfl _ rfl ?_
                try go_simp
                refine tree_p rfl rfl rfl rfl _ rfl (by simp) (fun K hK => ?_)
                apply Exists.intro
                refine ⟨fun wq K' hK' => ?_, ?_⟩
                · go_wp2_with fail
                  exact hK'
                go_simp
                refine hK _ ?_
                clear hK K
                refine tree_b rfl rfl rfl rfl _ rfl (by simp) (fun K hK => ?_)
                apply Exists.intro
                refine ⟨fun wq hq K' hK' => ?_, ?_⟩
                · obtain ⟨d1, d2, d3, d4⟩ := hcl.out wq hq
                  go_wp2_with fail
                  exact hK'
                go_simp
                refine hK _ ?_
                clear hK K
                refine tree_p rfl rfl rfl rfl _ rfl (by simp) (fun K hK => ?_)
                apply Exists.intro
                refine ⟨fun wq K' hK' => ?_, ?_⟩
                · go_wp2_with fail
                  exact hK'
                go_simp
                refine hK _ ?_
                clear hK K
                refine tree_n rfl rfl _ rfl _ rfl ?_
                try go_simp
                refine tree_p rfl rfl rfl rfl _ rfl (by simp) (fun K hK => ?_)
                apply Exists.intro
                refine ⟨fun wq K' hK' => ?_, ?_⟩
                · go_wp2_with fail
                  exact hK'
                go_simp
                refine hK _ ?_
                clear hK K
                refine tree_b rfl rfl rfl rfl _ rfl (by simp) (fun K hK => ?_)
                apply Exists.intro
                refine ⟨fun wq hq K' hK' => ?_, ?_⟩
                · obtain ⟨d1, d2, d3, d4⟩ := hcl.out wq hq
                  go_wp2_with fail
                  exact hK'
                go_simp
                refine hK _ ?_
                clear hK K
                refine tree_p rfl rfl rfl rfl _ rfl (by simp) (fun K hK => ?_)
                apply Exists.intro
                refine ⟨fun wq K' hK' => ?_, ?_⟩
                · go_wp2_with fail
                  exact hK'
                go_simp
                refine hK _ ?_
                clear hK K
                refine tree_p rfl rfl rfl rfl _ rfl (by simp) (fun K hK => ?_)
                apply Exists.intro
                refine ⟨fun wq K' hK' => ?_, ?_⟩
                · go_wp2_with fail
                  exact hK'
                go_simp
                refine hK _ ?_
                clear hK K
                refine tree_e rfl rfl (fun K hK => ?_)
                go_wp2_with fail
                refine (hA1.out u0 (gr_trans hgu0 (World.grownBy.refl _ _))).mono ?_
                rintro e u15 ⟨rfl, hg15⟩
                go_wp2_with fail
                try go_simp
                refine hK _ _ (gr_trans hgu0 hg15) ?_
                clear hK K
                refine tree_p rfl rfl rfl rfl _ rfl (by simp) (fun K hK => ?_)
                apply Exists.intro
                refine ⟨fun wq K' hK' => ?_, ?_⟩
                · go_wp2_with fail
                  exact hK'
                go_simp
                refine hK _ ?_
                clear hK K
                refine tree_p rfl rfl rfl rfl _ rfl (by simp) (fun K hK => ?_)
                apply Exists.intro
                refine ⟨fun wq K' hK' => ?_, ?_⟩
                · go_wp2_with fail
                  exact hK'
                go_simp
                refine hK _ ?_
                clear hK K
                refine tree_p rfl rfl rfl rfl _ rfl (by simp) (fun K hK => ?_)
                apply Exists.intro
                refine ⟨fun wq K' hK' => ?_, ?_⟩
                · go_wp2_with fail
                  exact hK'
                go_simp
                refine hK _ ?_
                clear hK K
                refine tree_n rfl rfl _ rfl _ rfl ?_
                try go_simp
                refine tree_p rfl rfl rfl rfl _ rfl (by simp) (fun K hK => ?_)
                apply Exists.intro
                refine ⟨fun wq K' hK' => ?_, ?_⟩
                · go_wp2_with fail
                  exact hK'
                go_simp
                refine hK _ ?_
                clear hK K
                refine tree_b rfl rfl rfl rfl _ rfl (by simp) (fun K hK => ?_)
                apply Exists.intro
                refine ⟨fun wq hq K' hK' => ?_, ?_⟩
                · obtain ⟨d1, d2, d3, d4⟩ := hcl.out wq hq
                  go_wp2_with fail
                  exact hK'
                go_simp
                refine hK _ ?_
                clear hK K
                refine tree_p rfl rfl rfl rfl _ rfl (by simp) (fun K hK => ?_)
                apply Exists.intro
                refine ⟨fun wq K' hK' => ?_, ?_⟩
                · go_wp2_with fail
                  exact hK'
                go_simp
                refine hK _ ?_
                clear hK K
                refine tree_n rfl rfl _ rfl _ rfl ?_
                try go_simp
                refine tree_p rfl rfl rfl rfl _ rfl (by simp) (fun K hK => ?_)
                apply Exists.intro
                refine ⟨fun wq K' hK' => ?_, ?_⟩
                · go_wp2_with fail
                  exact hK'
                go_simp
                refine hK _ ?_
                clear hK K
                refine tree_b rfl rfl rfl rfl _ rfl (by simp) (fun K hK => ?_)
                apply Exists.intro
                refine ⟨fun wq hq K' hK' => ?_, ?_⟩
                · obtain ⟨d1, d2, d3, d4⟩ := hcl.out wq hq
                  go_wp2_with fail
                  exact hK'
                go_simp
                refine hK _ ?_
                clear hK K
                refine tree_p rfl rfl rfl rfl _ rfl (by simp) (fun K hK => ?_)
                apply Exists.intro
                refine ⟨fun wq K' hK' => ?_, ?_⟩
                · go_wp2_with fail
                  exact hK'
                go_simp
                refine hK _ ?_
                clear hK K
                refine tree_n rfl rfl _ rfl _ rfl ?_
                try go_simp
                refine tree_p rfl rfl rfl rfl _ rfl (by simp) (fun K hK => ?_)
                apply Exists.intro
                refine ⟨fun wq K' hK' => ?_, ?_⟩
                · go_wp2_with fail
                  exact hK'
                go_simp
                refine hK _ ?_
                clear hK K
                refine tree_b rfl rfl rfl rfl _ rfl (by simp) (fun K hK => ?_)
                apply Exists.intro
                refine ⟨fun wq hq K' hK' => ?_, ?_⟩
                · obtain ⟨d1, d2, d3, d4⟩ := hcl.out wq hq
                  go_wp2_with fail
                  exact hK'
                go_simp
                refine hK _ ?_
                clear hK K
                refine tree_p rfl rfl rfl rfl _ rfl (by simp) (fun K hK => ?_)
                apply Exists.intro
                refine ⟨fun wq K' hK' => ?_, ?_⟩
                · go_wp2_with fail
                  exact hK'
                go_simp
                refine hK _ ?_
                clear hK K
                refine tree_p rfl rfl rfl rfl _ rfl (by simp) (fun K hK => ?_)
                apply Exists.intro
                refine ⟨fun wq K' hK' => ?_, ?_⟩
                · go_wp2_with fail
                  exact hK'
                go_simp
                refine hK _ ?_
                clear hK K
                refine tree_e0 (by kernel_rfl) rfl rfl (fun K hK => ?_)
                go_wp2_with fail
                refine (hA2.out u15 (gr_trans hgu0 hg15)).mono ?_
                rintro e u32 ⟨rfl, hg32⟩
                go_wp2_with fail
                try go_simp
                refine hK _ _ trivial ?_
                clear hK K
                refine tree_p rfl rfl rfl rfl _ rfl (by simp) (fun K hK => ?_)
                apply Exists.intro
                refine ⟨fun wq K' hK' => ?_, ?_⟩
                · go_wp2_with fail
                  exact hK'
                go_simp
                refine hK _ ?_
                clear hK K
                refine tree_p rfl rfl rfl rfl _ rfl (by simp) (fun K hK => ?_)
                apply Exists.intro
                refine ⟨fun wq K' hK' => ?_, ?_⟩
                · go_wp2_with fail
                  exact hK'
                go_simp
                refine hK _ ?_
                clear hK K
                refine tree_p rfl rfl rfl rfl _ rfl (by simp) (fun K hK => ?_)
                apply Exists.intro
                refine ⟨fun wq K' hK' => ?_, ?_⟩
                · go_wp2_with fail
                  exact hK'
                go_simp
                refine hK _ ?_
                clear hK K
                refine tree_p rfl rfl rfl rfl _ rfl (by simp) (fun K hK => ?_)
                apply Exists.intro
                refine ⟨fun wq K' hK' => ?_, ?_⟩
                · go_wp2_with fail
                  exact hK'
                go_simp
                refine hK _ ?_
                clear hK K
                refine tree_p rfl rfl rfl rfl _ rfl (by simp) (fun K hK => ?_)
                apply Exists.intro
                refine ⟨fun wq K' hK' => ?_, ?_⟩
                · go_wp2_with fail
                  exact hK'
                go_simp
                refine hK _ ?_
                clear hK K
                refine tree_e0 (by kernel_rfl) rfl rfl (fun K hK => ?_)
                go_wp2_with fail
                refine (hA3.out u32 (gr_trans hgu0 (gr_trans hg15 hg32))).mono ?_
                rintro e u38 ⟨rfl, hg38⟩
                go_wp2_with fail
                try go_simp
                refine hK _ _ trivial ?_
                clear hK K
                refine tree_p rfl rfl rfl rfl _ rfl (by simp) (fun K hK => ?_)
                apply Exists.intro
                refine ⟨fun wq K' hK' => ?_, ?_⟩
                · go_wp2_with fail
                  exact hK'
                go_simp
                refine hK _ ?_
                clear hK K
                refine tree_p rfl rfl rfl rfl _ rfl (by simp) (fun K hK => ?_)
                apply Exists.intro
                refine ⟨fun wq K' hK' => ?_, ?_⟩
                · go_wp2_with fail
                  exact hK'
                go_simp
                refine hK _ ?_
                clear hK K
                refine tree_p rfl rfl rfl rfl _ rfl (by simp) (fun K hK => ?_)
                apply Exists.intro
                refine ⟨fun wq K' hK' => ?_, ?_⟩
                · go_wp2_with fail
                  exact hK'
                go_simp
                refine hK _ ?_
                clear hK K
                refine tree_p rfl rfl rfl rfl _ rfl (by simp) (fun K hK => ?_)
                apply Exists.intro
                refine ⟨fun wq K' hK' => ?_, ?_⟩
                · go_wp2_with fail
                  exact hK'
                go_simp
                refine hK _ ?_
                clear hK K
                refine tree_p rfl rfl rfl rfl _ rfl (by simp) (fun K hK => ?_)
                apply Exists.intro
                refine ⟨fun wq K' hK' => ?_, ?_⟩
                · go_wp2_with fail
                  exact hK'
                go_simp
                refine hK _ ?_
                clear hK K
                refine tree_e0 (by kernel_rfl) rfl rfl (fun K hK => ?_)
                go_wp2_with fail
                refine (hA4.out u38 (gr_trans hgu0 (gr_trans (gr_trans hg15 hg32) hg38))).mono ?_
                rintro e u44 ⟨rfl, hg44⟩
                go_wp2_with fail
                try go_simp
                refine hK _ _ trivial ?_
                clear hK K
                refine tree_p rfl rfl rfl rfl _ rfl (by simp) (fun K hK => ?_)
                apply Exists.intro
                refine ⟨fun wq K' hK' => ?_, ?_⟩
                · go_wp2_with fail
                  exact hK'
                go_simp
                refine hK _ ?_
                clear hK K
                refine tree_done ?_
                have hgz := gr_trans hgu0 (gr_trans (gr_trans (gr_trans hg15 hg32) hg38) hg44)
                have hOz := (hOl.pure hg19).pure hgz
                have hsz : w4.heap.size ≤ (u44).heap.size := by have := hI.gr.size; have := hg19.size; have := hgz.size; omega
                have hseth := hide (setIg_any w4 og ob P _ (memL (l ++ [(⟨px, py⟩ : Pt)])) px py u44 ((hI.pure hg19).pure hgz) hPin.out (fun u v => memL_snoc l ⟨px, py⟩ u v))
                clear hcl
                go_wp2_with fail
                refine hseth.out.mono ?_
                rintro e wt ⟨rfl, hIt, hgt⟩
                have hOt := hOz.keep hgt (fun z e => by injection e; omega)
                have hszt : w4.heap.size ≤ wt.heap.size := by have := hgt.size; omega
                clear hseth hOz hOl
                go_wp2_with (at_builtin; refine wpList_pushAt (α := Pt) _ rfl (.tmp 156) (.tmp 160) _ rfl w4.heap.size 30 i0 _ 16 Tryz.underlying64 hi.out hz.out h1.out h2.out rfl _ _ _ l rfl rfl (by exact hOt.pure (gr_alloc (World.grownBy.refl _ _) _)) 0 ⟨_, 0, none⟩ 1 1 [⟨px, py⟩] rfl rfl (by exact sl_oneAt _ 0 [.int .i64 px, .int .i64 py] _ _ _ (by first | rfl | simp) (Nat.zero_le _) rfl) ?c2 ?c3 ?c4 ?_)
                case c2 => simp; omega
                case c3 => simp [maxLen]; omega
                case c4 => simp; omega
                intro A' c2' wz hOz hGz
                have hgA := gr_alloc (World.grownBy.refl wt none) (.cells #[.int .i64 px, .int .i64 py] 30)
                have hI6 := hI6of (hIt.pure hgA) hGz.1 (fun z e => (hOt.blk_lt e).1) hl4.2
                have hlen6 : (l ++ [(⟨px, py⟩ : Pt)]).length = l.length + 1 := by simp
                have hlt6 : k < (l ++ [(⟨px, py⟩ : Pt)]).length := by omega
                replace hlen6 := hide hlen6
                clear hOt hGz hIt hgA
                go_wp2_with fail
                (go_roundw; (case rel => exact ⟨l ++ [(⟨px, py⟩ : Pt)], b + 1, A', c2', by omega, by go_num, by rw [hlen6.out], hOz, hfin.out, hI6, hlt6⟩); (case measure => simp [intOf]; omega))
            · have hb3d : 1 < (b : Int) - 1 := by omega
              have hbe : b = 3 := by omega
              have hBn : Hid (Bfs nb9 Fr (fun _ _ => false) s l k (3 * (a + 1))) := by
                have := hB.out
                rw [hbe] at this; exact this
              clear hbe
              go_wp2_with fail
              (go_roundw; (case rel => exact ⟨l, a + 1, A, c', by omega, by go_num, rfl, hOl, hBn, hI, hlt⟩); (case measure => simp [intOf]; omega))
        · have ha3d : 1 < (a : Int) - 1 := by omega
          have hae : a = 3 := by omega
          have hBn : Hid (Bfs nb9 Fr (fun _ _ => false) s l (k + 1) 0) := by
            have := hB.out
            rw [hae] at this
            exact this.next (fun _ => by simp [nb9])
          have hlt2 : k + 1 ≤ l.length := hlt
          have hlN := hlbb.out l hB.out.rch hB.out.nd
          clear hae hlt
          go_wp2_with fail
          (go_roundw; (case rel => exact ⟨l, k + 1, A, c', hlt2, by go_num, rfl, hOl, hBn, hI⟩); (case measure => simp [intOf]; omega))
    · obtain rfl : k = l.length := by omega
      have hall := hide (fun p => hB.out.all (Nat.le_refl _) (fun _ _ _ _ _ h => by cases h) hsF.out p)
      have hcf : Hid (∀ u v, boxT G (memL l) G.high 0 u v = closC c u v) := fun u v => by
        have hS : G.at = onC c := funext fun x => funext fun y => hGat.out x y
        have hr : c.rows.length ≠ 0 := by rw [← hGb.out.2.2.2]; omega
        have hm : memL l u v = true ↔ OutR (onC c) (c.x / c.step) (c.y / c.step) (c.x / c.step + wideR c.rows - 1) (c.y / c.step + c.rows.length - 1) ⟨u, v⟩ := by
          rw [memL_iff (q := ⟨u, v⟩), hall.out, hFr.out, hs0.out, hS, hGb.out.1, hGb.out.2.1, hGb.out.2.2.1, hGb.out.2.2.2]
          exact Iff.rfl
        rw [boxT_all, closC, decide_eq_true hr, Bool.true_and, Bool.eq_iff_iff, clos_iff, ← hm]
        have h1 := hGb.out
        rw [← h1.1, ← h1.2.1, ← h1.2.2.1, ← h1.2.2.2]
        simp only [Bool.and_eq_true, decide_eq_true_eq, Bool.not_eq_true', Bool.not_eq_true]
        unfold Grd.In
        constructor
        · rintro ⟨h2, h3⟩; exact ⟨by omega, h3⟩
        · rintro ⟨h2, h3⟩; exact ⟨by omega, h3⟩
      have hgN := gr_new hgw4 hI.gr hobw
      have hG8 := hGc.out wr hI.gr
      have hb8 := hbbc.out wr hI.gr
      obtain ⟨O', o1, o2, o3, o4⟩ := hI
      have hOat : Hid (∀ u v, O'.at u v = memL l u v) := fun u v => by rw [o3, hPa.out, Bool.false_or]
      have hok8 := hG8.ok
      have hNok2 : (Grd.none G.step G.x G.y G.wide G.high).Ok := ⟨hok8.s, hok8.x, hok8.y, hok8.w, hok8.h, by simp [Grd.none]⟩
      have hN := hide (fun W => newGrid_any G.step G.x G.y G.wide G.high W hNok2)
      have hcl := hide (fun W (h : wr.grownBy W none) => (hG8.pure h).cells)
      clear hOl hB hall hFi hsF hFr hs0 hlbb hN hk hlt hlN o2 o3 o4 hGc hbbc
      have hN := hide (fun W => newGrid_any G.step G.x G.y G.wide G.high W hNok2)
      go_upto_region 23 with fail
      go_cut [13] from 162 to 183 (fun s13 wx => ∃ fg fb, s13 = .pointer (some ⟨fg, 0, none⟩) ∧ GridAt wx fg fb (Grd.none G.step G.x G.y G.wide G.high) ∧ wr.grownBy wx none ∧ wr.heap.size ≤ fg ∧ wr.heap.size ≤ fb)
      case first =>
        refine wp_region_tree (fun wx => wr.grownBy wx none) [2, 2, 2, 1, 2, 2, 2, 1, 2, 2, 2, 1, 2, 2, 2, 1, 2, 2, 2, 1, 0, 2] (.bl 0 (.bl 1 (.bl 2 (.bl 3 (.bl 4 (.bl 5 (.bl 6 (.bl 7 (.bl 8 (.bl 9 (.bl 10 (.bl 11 (.bl 12 (.bl 13 (.bl 14 (.bl 15 (.bl 16 (.bl 17 (.bl 18 (.bl 19 (.ef 20 (.bl 21 .done)))))))))))))))))))))) (by kernel_rfl) (by kernel_rfl) (gr_drew (World.grownBy.refl _ _)) ?_
        obtain ⟨u0, hu0⟩ : ∃ x, x = (wr).drew := ⟨_, rfl⟩
        rw [← hu0]
        have hgu0 : (wr).grownBy u0 none := by rw [hu0]; exact gr_drew (World.grownBy.refl _ _)
        clear hu0
        refine tree_p rfl rfl rfl rfl _ rfl (by simp) (fun K hK => ?_)
        apply Exists.intro
        refine ⟨fun wq K' hK' => ?_, ?_⟩
        · go_wp2_with fail
          exact hK'
        go_simp
        refine hK _ ?_
        clear hK K
        refine tree_n rfl rfl _ rfl _ rfl ?_
        try go_simp
        refine tree_p rfl rfl rfl rfl _ rfl (by simp) (fun K hK => ?_)
        apply Exists.intro
        refine ⟨fun wq K' hK' => ?_, ?_⟩
        · go_wp2_with fail
          exact hK'
        go_simp
        refine hK _ ?_
        clear hK K
        refine tree_b rfl rfl rfl rfl _ rfl (by simp) (fun K hK => ?_)
        apply Exists.intro
        refine ⟨fun wq hq K' hK' => ?_, ?_⟩
        · obtain ⟨d0, d1, d2, d3, d4, -⟩ := hcl.out wq hq
          go_wp2_with fail
          exact hK'
        go_simp
        refine hK _ ?_
        clear hK K
        refine tree_p rfl rfl rfl rfl _ rfl (by simp) (fun K hK => ?_)
        apply Exists.intro
        refine ⟨fun wq K' hK' => ?_, ?_⟩
        · go_wp2_with fail
          exact hK'
        go_simp
        refine hK _ ?_
        clear hK K
        refine tree_n rfl rfl _ rfl _ rfl ?_
        try go_simp
        refine tree_p rfl rfl rfl rfl _ rfl (by simp) (fun K hK => ?_)
        apply Exists.intro
        refine ⟨fun wq K' hK' => ?_, ?_⟩
        · go_wp2_with fail
          exact hK'
        go_simp
        refine hK _ ?_
        clear hK K
        refine tree_b rfl rfl rfl rfl _ rfl (by simp) (fun K hK => ?_)
        apply Exists.intro
        refine ⟨fun wq hq K' hK' => ?_, ?_⟩
        · obtain ⟨d0, d1, d2, d3, d4, -⟩ := hcl.out wq hq
          go_wp2_with fail
          exact hK'
        go_simp
        refine hK _ ?_
        clear hK K
        refine tree_p rfl rfl rfl rfl _ rfl (by simp) (fun K hK => ?_)
        apply Exists.intro
        refine ⟨fun wq K' hK' => ?_, ?_⟩
        · go_wp2_with fail
          exact hK'
        go_simp
        refine hK _ ?_
        clear hK K
        refine tree_n rfl rfl _ rfl _ rfl ?_
        try go_simp
        refine tree_p rfl rfl rfl rfl _ rfl (by simp) (fun K hK => ?_)
        apply Exists.intro
        refine ⟨fun wq K' hK' => ?_, ?_⟩
        · go_wp2_with fail
          exact hK'
        go_simp
        refine hK _ ?_
        clear hK K
        refine tree_b rfl rfl rfl rfl _ rfl (by simp) (fun K hK => ?_)
        apply Exists.intro
        refine ⟨fun wq hq K' hK' => ?_, ?_⟩
        · obtain ⟨d0, d1, d2, d3, d4, -⟩ := hcl.out wq hq
          go_wp2_with fail
          exact hK'
        go_simp
        refine hK _ ?_
        clear hK K
        refine tree_p rfl rfl rfl rfl _ rfl (by simp) (fun K hK => ?_)
        apply Exists.intro
        refine ⟨fun wq K' hK' => ?_, ?_⟩
        · go_wp2_with fail
          exact hK'
        go_simp
        refine hK _ ?_
        clear hK K
        refine tree_n rfl rfl _ rfl _ rfl ?_
        try go_simp
        refine tree_p rfl rfl rfl rfl _ rfl (by simp) (fun K hK => ?_)
        apply Exists.intro
        refine ⟨fun wq K' hK' => ?_, ?_⟩
        · go_wp2_with fail
          exact hK'
        go_simp
        refine hK _ ?_
        clear hK K
        refine tree_b rfl rfl rfl rfl _ rfl (by simp) (fun K hK => ?_)
        apply Exists.intro
        refine ⟨fun wq hq K' hK' => ?_, ?_⟩
        · obtain ⟨d0, d1, d2, d3, d4, -⟩ := hcl.out wq hq
          go_wp2_with fail
          exact hK'
        go_simp
        refine hK _ ?_
        clear hK K
        refine tree_p rfl rfl rfl rfl _ rfl (by simp) (fun K hK => ?_)
        apply Exists.intro
        refine ⟨fun wq K' hK' => ?_, ?_⟩
        · go_wp2_with fail
          exact hK'
        go_simp
        refine hK _ ?_
        clear hK K
        refine tree_n rfl rfl _ rfl _ rfl ?_
        try go_simp
        refine tree_p rfl rfl rfl rfl _ rfl (by simp) (fun K hK => ?_)
        apply Exists.intro
        refine ⟨fun wq K' hK' => ?_, ?_⟩
        · go_wp2_with fail
          exact hK'
        go_simp
        refine hK _ ?_
        clear hK K
        refine tree_b rfl rfl rfl rfl _ rfl (by simp) (fun K hK => ?_)
        apply Exists.intro
        refine ⟨fun wq hq K' hK' => ?_, ?_⟩
        · obtain ⟨d0, d1, d2, d3, d4, -⟩ := hcl.out wq hq
          go_wp2_with fail
          exact hK'
        go_simp
        refine hK _ ?_
        clear hK K
        refine tree_e0 (by kernel_rfl) rfl rfl (fun K hK => ?_)
        go_wp2_with fail
        refine (hN.out u0).mono ?_
        rintro e w20 ⟨fg, fb, rfl, hFg, hg20, hfg, hfb⟩
        go_wp2_with fail
        try go_simp
        refine hK _ _ trivial ?_
        clear hK K
        refine tree_p rfl rfl rfl rfl _ rfl (by simp) (fun K hK => ?_)
        apply Exists.intro
        refine ⟨fun wq K' hK' => ?_, ?_⟩
        · go_wp2_with fail
          exact hK'
        go_simp
        refine hK _ ?_
        clear hK K
        refine tree_done ?_
        go_wp2_with fail
        go_meet
        have := hgu0.size
        exact ⟨fg, fb, rfl, hFg, gr_trans hgu0 hg20, by omega, by omega⟩
      case rest =>
      obtain ⟨fg, fb, rfl, hFg, hgc, hfg, hfb⟩ := hcut
      generalize hwq : wc = w8 at *
      clear hwq hN hcl
      have hlo := o1.lt
      have hlg := hG8.lt
      have hlx := hb8.lt
      have hGF := hide (fun W (h : w8.grownBy W (some fb)) => ((hG8.pure hgc).gr h (by intro e; injection e; omega) (by intro e; injection e; omega) : GridAt W g gb G))
      have hOF := hide (fun W (h : w8.grownBy W (some fb)) => ((o1.pure hgc).gr h (by intro e; injection e; omega) (by intro e; injection e; omega) : GridAt W og ob O'))
      have hbF := hide (fun W (h : w8.grownBy W (some fb)) => ((hb8.pure hgc).gr h (by intro e; injection e; omega) : Box W xb1 34 [.int .i64 0, .int .i64 0, .int .i64 0, .slice none 0 0]))
      replace hgN := hgN.t hgc
      have hgNs := hgN.size
      have hF0 : SetI w8 fg fb (Grd.none G.step G.x G.y G.wide G.high) (boxT G (memL l) 0 0) w8 := (SetI.start hFg).congr fun u v => by rw [boxT_zero]
      have hfbw : w.heap.size ≤ fb := by have := hgw4.size; omega
      obtain ⟨-, -, -, -, d4, -⟩ := (hGF.out w8 (World.grownBy.refl _ _)).cells
      clear hFg hgc hG8 o1 hb8
      have hxg := hok8.x
      have hyg := hok8.y
      have hwg := hok8.w
      have hhg := hok8.h
      have hbx := hide (boxT_next G (memL l))
      have hbr := hide (boxT_row G (memL l))
      generalize memL l = ml at *
      go_wp2_with fail
      clear d4
      go_loopw [187] (fun i wr => ∃ j : Nat, j ≤ G.high ∧ i = .int .i64 j ∧ SetI w8 fg fb (Grd.none G.step G.x G.y G.wide G.high) (boxT G ml j 0) wr) (fun i _ => G.high - (intOf i).toNat)
      case atStart => exact ⟨0, Nat.zero_le _, rfl, hF0⟩
      case round =>
        clear hF0
        obtain ⟨j, hj, rfl, hFs⟩ := hrel
        by_cases hjl : j < G.high
        · obtain ⟨-, -, -, d3, -, -⟩ := (hGF.out wr hFs.gr).cells
          go_wp2_with fail
          clear d3
          go_loopw [194] (fun i wr => ∃ i' : Nat, i' ≤ G.wide ∧ i = .int .i64 i' ∧ SetI w8 fg fb (Grd.none G.step G.x G.y G.wide G.high) (boxT G ml j i') wr) (fun i _ => G.wide - (intOf i).toNat)
          case atStart => exact ⟨0, Nat.zero_le _, rfl, hFs⟩
          case round =>
            clear hFs
            obtain ⟨i, hi', rfl, hFs⟩ := hrel
            by_cases hil : i < G.wide
            · have hnx := hide (hbx.out j i hil)
              have hcl := hide (fun W (h : wr.grownBy W none) => (hGF.out W (gr_trans hFs.gr (gr_any h))).cells)
              have hA := hide (fun W (h : wr.grownBy W none) => at_any og ob O' (G.x + i) (G.y + j) W (hOF.out W (gr_trans hFs.gr (gr_any h))) (by omega) (by omega))
              rw [hOat.out] at hA
              go_upto_region 30 with fail
              refine wp_region_tree (fun wx => wr.grownBy wx none) [2, 2, 2, 2, 1, 2, 2, 2, 2, 2, 1, 2, 2, 0, 2] (.bl 0 (.bl 1 (.bl 2 (.bl 3 (.bl 4 (.bl 5 (.bl 6 (.bl 7 (.bl 8 (.bl 9 (.bl 10 (.bl 11 (.bl 12 (.ef 13 (.bl 14 .done))))))))))))))) (by kernel_rfl) (by kernel_rfl) (gr_drew (World.grownBy.refl _ _)) ?_
              obtain ⟨u0, hu0⟩ : ∃ x, x = (wr).drew := ⟨_, rfl⟩
              rw [← hu0]
              have hgu0 : (wr).grownBy u0 none := by rw [hu0]; exact gr_drew (World.grownBy.refl _ _)
              clear hu0
              refine tree_p rfl rfl rfl rfl _ rfl (by simp) (fun K hK => ?_)
              apply Exists.intro
              refine ⟨fun wq K' hK' => ?_, ?_⟩
              · go_wp2_with fail
                exact hK'
              go_simp
              refine hK _ ?_
              clear hK K
              refine tree_p rfl rfl rfl rfl _ rfl (by simp) (fun K hK => ?_)
              apply Exists.intro
              refine ⟨fun wq K' hK' => ?_, ?_⟩
              · go_wp2_with fail
                exact hK'
              go_simp
              refine hK _ ?_
              clear hK K
              refine tree_n rfl rfl _ rfl _ rfl ?_
              try go_simp
              refine tree_p rfl rfl rfl rfl _ rfl (by simp) (fun K hK => ?_)
              apply Exists.intro
              refine ⟨fun wq K' hK' => ?_, ?_⟩
              · go_wp2_with fail
                exact hK'
              go_simp
              refine hK _ ?_
              clear hK K
              refine tree_b rfl rfl rfl rfl _ rfl (by simp) (fun K hK => ?_)
              apply Exists.intro
              refine ⟨fun wq hq K' hK' => ?_, ?_⟩
              · obtain ⟨d0, d1, d2, d3, d4, -⟩ := hcl.out wq hq
                go_wp2_with fail
                exact hK'
              go_simp
              refine hK _ ?_
              clear hK K
              refine tree_p rfl rfl rfl rfl _ rfl (by simp) (fun K hK => ?_)
              apply Exists.intro
              refine ⟨fun wq K' hK' => ?_, ?_⟩
              · go_wp2_with fail
                exact hK'
              go_simp
              refine hK _ ?_
              clear hK K
              refine tree_p rfl rfl rfl rfl _ rfl (by simp) (fun K hK => ?_)
              apply Exists.intro
              refine ⟨fun wq K' hK' => ?_, ?_⟩
              · go_wp2_with fail
                exact hK'
              go_simp
              refine hK _ ?_
              clear hK K
              refine tree_p rfl rfl rfl rfl _ rfl (by simp) (fun K hK => ?_)
              apply Exists.intro
              refine ⟨fun wq K' hK' => ?_, ?_⟩
              · go_wp2_with fail
                exact hK'
              go_simp
              refine hK _ ?_
              clear hK K
              refine tree_n rfl rfl _ rfl _ rfl ?_
              try go_simp
              refine tree_p rfl rfl rfl rfl _ rfl (by simp) (fun K hK => ?_)
              apply Exists.intro
              refine ⟨fun wq K' hK' => ?_, ?_⟩
              · go_wp2_with fail
                exact hK'
              go_simp
              refine hK _ ?_
              clear hK K
              refine tree_b rfl rfl rfl rfl _ rfl (by simp) (fun K hK => ?_)
              apply Exists.intro
              refine ⟨fun wq hq K' hK' => ?_, ?_⟩
              · obtain ⟨d0, d1, d2, d3, d4, -⟩ := hcl.out wq hq
                go_wp2_with fail
                exact hK'
              go_simp
              refine hK _ ?_
              clear hK K
              refine tree_p rfl rfl rfl rfl _ rfl (by simp) (fun K hK => ?_)
              apply Exists.intro
              refine ⟨fun wq K' hK' => ?_, ?_⟩
              · go_wp2_with fail
                exact hK'
              go_simp
              refine hK _ ?_
              clear hK K
              refine tree_p rfl rfl rfl rfl _ rfl (by simp) (fun K hK => ?_)
              apply Exists.intro
              refine ⟨fun wq K' hK' => ?_, ?_⟩
              · go_wp2_with fail
                exact hK'
              go_simp
              refine hK _ ?_
              clear hK K
              refine tree_e0 (by kernel_rfl) rfl rfl (fun K hK => ?_)
              go_wp2_with fail
              refine (hA.out u0 (gr_trans hgu0 (World.grownBy.refl _ _))).mono ?_
              rintro e u13 ⟨rfl, hg13⟩
              go_wp2_with fail
              try go_simp
              refine hK _ _ trivial ?_
              clear hK K
              refine tree_p rfl rfl rfl rfl _ rfl (by simp) (fun K hK => ?_)
              apply Exists.intro
              refine ⟨fun wq K' hK' => ?_, ?_⟩
              · go_wp2_with fail
                exact hK'
              go_simp
              refine hK _ ?_
              clear hK K
              refine tree_done ?_
              have hFz := hFs.pure (gr_trans hgu0 hg13)
              clear hcl hA hFs hgu0 hg13
              rcases hv : ml (G.x + i) (G.y + j) with _ | _
              rotate_left
              · have hfin := hide (hFz.congr (U := boxT G ml j (i + 1)) fun u v => by rw [hnx.out, hv]; simp)
                clear hFz hv hnx
                go_wp2_with fail
                (go_roundw; (case rel => exact ⟨i + 1, by omega, by go_num, hfin.out⟩); (case measure => simp [intOf]; omega))
              · have hcl := hide (fun W (h : u13.grownBy W none) => (hGF.out W (gr_trans hFz.gr (gr_any h))).cells)
                have hset := hide (fun W (h : u13.grownBy W none) => setI_any w8 fg fb _ _ (boxT G ml j (i + 1)) (G.x + i) (G.y + j) W (hFz.pure h) (by unfold Grd.In; show G.x ≤ G.x + (i : Int) ∧ G.x + (i : Int) < G.x + (G.wide : Int) ∧ G.y ≤ G.y + (j : Int) ∧ G.y + (j : Int) < G.y + (G.high : Int); omega) (fun u v => by rw [hnx.out, hv]; simp))
                clear hFz hnx
                go_upto_region 31 with fail
                clear hv
                refine wp_region_tree (fun wx => u13.grownBy wx none) [2, 2, 2, 2, 1, 2, 2, 2, 2, 2, 1, 2, 2, 0] (.bl 0 (.bl 1 (.bl 2 (.bl 3 (.bl 4 (.bl 5 (.bl 6 (.bl 7 (.bl 8 (.bl 9 (.bl 10 (.bl 11 (.bl 12 (.ef 13 .done)))))))))))))) (by kernel_rfl) (by kernel_rfl) (gr_drew (World.grownBy.refl _ _)) ?_
                obtain ⟨u1, hu1⟩ : ∃ x, x = (u13).drew := ⟨_, rfl⟩
                rw [← hu1]
                have hgu1 : (u13).grownBy u1 none := by rw [hu1]; exact gr_drew (World.grownBy.refl _ _)
                clear hu1
                refine tree_p rfl rfl rfl rfl _ rfl (by simp) (fun K hK => ?_)
                apply Exists.intro
                refine ⟨fun wq K' hK' => ?_, ?_⟩
                · go_wp2_with fail
                  exact hK'
                go_simp
                refine hK _ ?_
                clear hK K
                refine tree_p rfl rfl rfl rfl _ rfl (by simp) (fun K hK => ?_)
                apply Exists.intro
                refine ⟨fun wq K' hK' => ?_, ?_⟩
                · go_wp2_with fail
                  exact hK'
                go_simp
                refine hK _ ?_
                clear hK K
                refine tree_n rfl rfl _ rfl _ rfl ?_
                try go_simp
                refine tree_p rfl rfl rfl rfl _ rfl (by simp) (fun K hK => ?_)
                apply Exists.intro
                refine ⟨fun wq K' hK' => ?_, ?_⟩
                · go_wp2_with fail
                  exact hK'
                go_simp
                refine hK _ ?_
                clear hK K
                refine tree_b rfl rfl rfl rfl _ rfl (by simp) (fun K hK => ?_)
                apply Exists.intro
                refine ⟨fun wq hq K' hK' => ?_, ?_⟩
                · obtain ⟨d0, d1, d2, d3, d4, -⟩ := hcl.out wq hq
                  go_wp2_with fail
                  exact hK'
                go_simp
                refine hK _ ?_
                clear hK K
                refine tree_p rfl rfl rfl rfl _ rfl (by simp) (fun K hK => ?_)
                apply Exists.intro
                refine ⟨fun wq K' hK' => ?_, ?_⟩
                · go_wp2_with fail
                  exact hK'
                go_simp
                refine hK _ ?_
                clear hK K
                refine tree_p rfl rfl rfl rfl _ rfl (by simp) (fun K hK => ?_)
                apply Exists.intro
                refine ⟨fun wq K' hK' => ?_, ?_⟩
                · go_wp2_with fail
                  exact hK'
                go_simp
                refine hK _ ?_
                clear hK K
                refine tree_p rfl rfl rfl rfl _ rfl (by simp) (fun K hK => ?_)
                apply Exists.intro
                refine ⟨fun wq K' hK' => ?_, ?_⟩
                · go_wp2_with fail
                  exact hK'
                go_simp
                refine hK _ ?_
                clear hK K
                refine tree_n rfl rfl _ rfl _ rfl ?_
                try go_simp
                refine tree_p rfl rfl rfl rfl _ rfl (by simp) (fun K hK => ?_)
                apply Exists.intro
                refine ⟨fun wq K' hK' => ?_, ?_⟩
                · go_wp2_with fail
                  exact hK'
                go_simp
                refine hK _ ?_
                clear hK K
                refine tree_b rfl rfl rfl rfl _ rfl (by simp) (fun K hK => ?_)
                apply Exists.intro
                refine ⟨fun wq hq K' hK' => ?_, ?_⟩
                · obtain ⟨d0, d1, d2, d3, d4, -⟩ := hcl.out wq hq
                  go_wp2_with fail
                  exact hK'
                go_simp
                refine hK _ ?_
                clear hK K
                refine tree_p rfl rfl rfl rfl _ rfl (by simp) (fun K hK => ?_)
                apply Exists.intro
                refine ⟨fun wq K' hK' => ?_, ?_⟩
                · go_wp2_with fail
                  exact hK'
                go_simp
                refine hK _ ?_
                clear hK K
                refine tree_p rfl rfl rfl rfl _ rfl (by simp) (fun K hK => ?_)
                apply Exists.intro
                refine ⟨fun wq K' hK' => ?_, ?_⟩
                · go_wp2_with fail
                  exact hK'
                go_simp
                refine hK _ ?_
                clear hK K
                refine tree_e0 (by kernel_rfl) rfl rfl (fun K hK => ?_)
                go_wp2_with fail
                refine (hset.out u1 (gr_trans hgu1 (World.grownBy.refl _ _))).mono ?_
                rintro e u14 ⟨rfl, hfin⟩
                replace hfin := hide hfin
                go_wp2_with fail
                try go_simp
                refine hK _ _ trivial ?_
                clear hK K
                refine tree_done ?_
                clear hcl hset hgu1
                go_wp2_with fail
                (go_roundw; (case rel => exact ⟨i + 1, by omega, by go_num, hfin.out⟩); (case measure => simp [intOf]; omega))
            · obtain rfl : i = G.wide := by omega
              have hfin := hide (hFs.congr (U := boxT G ml (j + 1) 0) fun u v => hbr.out j u v)
              clear hFs
              go_wp2_with fail
              (go_roundw; (case rel => exact ⟨j + 1, by omega, by go_num, hfin.out⟩); (case measure => simp [intOf]; omega))
        · obtain rfl : j = G.high := by omega
          obtain ⟨F', f1, ⟨s1, s2, s3, s4, s5⟩, f3, f4⟩ := hFs
          have hbZ := hbF.out wr f4
          have hgZ := gr_new hgN f4 hfbw
          have hCc := hide (gridCells_any fg fb F' wr f1)
          have hS : Hid (∀ x y, F'.at x y = closC c x y) := fun x y => by
            rw [f3, Grd.none_at, Bool.false_or]; exact hcf.out x y
          have hst' : Hid (F'.step = G.step) := s1
          clear f1 f3 f4 s1 s2 s3 s4 s5 hGF hOF hbF
          go_wp2_with fail
          refine (hCc.out).mono ?_
          rintro e v9 ⟨c9, er9, A9, cc9, rfl, hC9, hO9, hg9⟩
          have hb9 := (hbZ).pure hg9
          have hgw9 := (hgZ).t hg9
          obtain ⟨⟨d0, f0⟩, ⟨d1, f1⟩, ⟨d2, f2⟩, ⟨d3, f3⟩⟩ := box4_c hb9
          replace hC9 := hide hC9
          obtain ⟨n9, hn9⟩ : ∃ n, n = c9.rows.length := ⟨_, rfl⟩
          rw [← hn9]
          replace hn9 := hide hn9
          go_wp2_with fail
          clear d0 d1 d2 d3 f0 f1 f2 f3
          have hgf := gr_new hgw9 (set4_gr (w := v9) (g := xb1) (.int .i64 c9.step) (.int .i64 c9.x) (.int .i64 c9.y) (.slice A9 n9 cc9)) hxb1
          have hOf := (Own.lower hO9 ((hgZ).size)).ne (set4_gr (w := v9) (g := xb1) (.int .i64 c9.step) (.int .i64 c9.x) (.int .i64 c9.y) (.slice A9 n9 cc9)) (fun x h e => hb9.ne_own hO9 (by decide) (by injection e with e; rw [e]; exact h))
          have hbf := box_set4 hb9 (.int .i64 c9.step) (.int .i64 c9.x) (.int .i64 c9.y) (.slice A9 n9 cc9)
          generalize (((v9.setCell ⟨xb1, 0, none⟩ (.int .i64 c9.step)).setCell ⟨xb1, 1, none⟩ (.int .i64 c9.x)).setCell ⟨xb1, 2, none⟩ (.int .i64 c9.y)).setCell ⟨xb1, 3, none⟩ (.slice A9 n9 cc9) = wf at *
          obtain ⟨⟨d0, f0⟩, ⟨d1, f1⟩, ⟨d2, f2⟩, ⟨d3, f3⟩⟩ := box4_c hbf
          exact bodyPost_ret (v := .tuple #[.agg #[.int .i64 c9.step, .int .i64 c9.x, .int .i64 c9.y, .slice A9 n9 cc9], .int .i64 er9]) (by simp [results, Tryz.results28, go_sem, d0, d1, d2, d3, f0, f1, f2, f3]) rfl ⟨c9, er9, A9, cc9, by rw [hn9.out], (fun h => hEs.out _ hS.out _ _ (by have h2 := h; rw [hst'.out] at h2; exact h2)) hC9.out, hOf, hgf⟩

end Go.Proofs.YtgcpegjggakemaaGreatDoor
