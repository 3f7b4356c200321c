/- Contracts of functions that this seat's laws reach, each: what one call returns and what it leaves in memory; no condition beyond each theorem's own hypotheses. -/
import Derived.Test.YtgcpegjggakemaaGreatDoorZqCelB
import Derived.Test.YtgcpegjggakemaaGreatDoorZqClosData
import Derived.Test.YtgcpegjggakemaaGreatDoorZqPathA
set_option linter.unusedVariables false
set_option linter.unusedSimpArgs false
namespace Go.Proofs.YtgcpegjggakemaaGreatDoor
open Go Go.RowKit Go.Bl

def gCells (G : Grd) (b : Nat) : List Value := [.int .i64 G.step, .int .i64 G.x, .int .i64 G.y, .int .i64 (G.wide : Int), .int .i64 (G.high : Int), .slice (some ⟨b, 0, none⟩) G.on.length G.on.length]
/-- a grid in memory: its fields in block g, its cells in block b -/
structure GridAt (w : World) (g b : Nat) (G : Grd) : Prop where
  ok : G.Ok
  bx : Box w g 133 (gCells G b)
  on : Own w 0 4 (some ⟨b, 0, none⟩) G.on.length G.on
variable {w w' : World} {g b : Nat} {G : Grd}

theorem GridAt.gr {r : Option Nat} (h : GridAt w g b G) (hg : w.grownBy w' r) (h1 : r ≠ some g) (h2 : r ≠ some b) : GridAt w' g b G :=
  ⟨h.ok, h.bx.gr hg h1, h.on.ne hg (fun x e q => by cases e; exact h2 q)⟩

theorem GridAt.pure (h : GridAt w g b G) (hg : w.grownBy w' none) : GridAt w' g b G := h.gr hg (by simp) (by simp)

theorem GridAt.ne (h : GridAt w g b G) : b ≠ g := fun e => h.bx.ne_own h.on (by decide) (by rw [e]; rfl)

theorem GridAt.lt (h : GridAt w g b G) : g < w.heap.size ∧ b < w.heap.size := ⟨h.bx.lt, (h.on.blk_lt rfl).2⟩

theorem GridAt.cells (h : GridAt w g b G) : w.cell? ⟨g, 0, none⟩ = some (.int .i64 G.step) ∧ w.cell? ⟨g, 1, none⟩ = some (.int .i64 G.x) ∧ w.cell? ⟨g, 2, none⟩ = some (.int .i64 G.y) ∧
    w.cell? ⟨g, 3, none⟩ = some (.int .i64 (G.wide : Int)) ∧ w.cell? ⟨g, 4, none⟩ = some (.int .i64 (G.high : Int)) ∧ w.cell? ⟨g, 5, none⟩ = some (.slice (some ⟨b, 0, none⟩) G.on.length G.on.length) :=
  ⟨(h.bx.c 0 rfl).1, (h.bx.c 1 rfl).1, (h.bx.c 2 rfl).1, (h.bx.c 3 rfl).1, (h.bx.c 4 rfl).1, (h.bx.c 5 rfl).1⟩

theorem GridAt.bit (h : GridAt w g b G) {k : Nat} (hk : k < G.on.length) : w.cell? ⟨b, k, none⟩ = some (.bool (G.on.getD k false)) := by
  obtain ⟨cc, hcr, hcc⟩ := h.on.cell_at (by decide) hk
  have hcr' : cc = [.bool G.on[k]] := hcr
  subst hcr'
  have := hcc 0 _ rfl
  rw [show Enc.sz Bool = 1 from rfl, Nat.mul_one, Nat.add_zero] at this
  rw [this, List.getD_eq_getElem?_getD, List.getElem?_eq_getElem hk]; rfl

theorem GridAt.set_ (h : GridAt w g b G) {x y : Int} (hi : G.In x y) : GridAt (w.setCell ⟨b, G.ix x y, none⟩ (.bool true)) g b (G.put x y) := by
  have hl := h.ok.ix_lt hi
  have hu := h.on.put (i := G.ix x y) (j := 0) (x := true) (u := .bool true) hl (by decide) (by rintro c1 rfl; rfl)
  rw [show G.ix x y * Enc.sz Bool + 0 = G.ix x y from by rw [show Enc.sz Bool = 1 from rfl]; omega] at hu
  have e : (G.put x y).on.length = G.on.length := by simp [Grd.put]
  refine ⟨h.ok.put, ?_, ?_⟩
  · have := h.bx.set_other (g' := b) (i := G.ix x y) (.bool true) h.ne
    rw [show gCells (G.put x y) b = gCells G b by simp [gCells, Grd.put]]; exact this
  · rw [e]; exact hu

theorem info_boolG : (Tryz.prog.info? 4).map (fun i => (i.zero, i.size, i.bytes)) = some (some (.bool false), 1, 1) := by kernel_rfl

set_option maxHeartbeats 1000000 in
theorem newGrid_any (step gx gy : Int) (wide high : Nat) (w : World) (hok : (Grd.none step gx gy wide high).Ok) :
    Calls Tryz.prog 67 #[.int .i64 step, .int .i64 gx, .int .i64 gy, .int .i64 (wide : Int), .int .i64 (high : Int)] w fun e w' => ∃ g b, e = .returned (.pointer (some ⟨g, 0, none⟩)) ∧ GridAt w' g b (Grd.none step gx gy wide high) ∧ w.grownBy w' none ∧ w.heap.size ≤ g ∧ w.heap.size ≤ b := by
  have hW := hok.w
  have hH := hok.h
  simp only [Grd.none] at hW hH
  have hbd := ix_bd hW hH
  obtain ⟨n, hn⟩ : ∃ n, n = wide * high := ⟨_, rfl⟩
  rw [← hn] at hbd
  have hmul : (wide : Int) * (high : Int) = (n : Int) := by rw [hn]; simp
  obtain ⟨i0, hi, hz, hi1, hi2⟩ := info_parts info_boolG
  obtain ⟨w2, hrun, hoS, hg2⟩ := run_makeOwn (P := Tryz.prog) w 131 4 i0 _ false Tryz.underlying131 hi hz hi1 rfl rfl .i64 .i64 n (by rw [hi2]; omega) (by simp [maxLen]; omega)
  clear hi hz hi1 hi2
  replace hn := hide hn
  go_enter Tryz.func67, Tryz.ntmps67
  go_wp2_with fail
  go_ret
  have hga := gr_alloc (World.grownBy.refl w2 none) (.cells #[.int .i64 step, .int .i64 gx, .int .i64 gy, .int .i64 (wide : Int), .int .i64 (high : Int), .slice (some ⟨w.heap.size, 0, none⟩) n n] 133)
  have hl : (Grd.none step gx gy wide high).on.length = n := by simp [Grd.none, hn.out]
  refine ⟨w2.heap.size, w.heap.size, rfl, ⟨hok, ?_, ?_⟩, hg2.t hga, hg2.size, Nat.le_refl _⟩
  · have := Box.new w2 [.int .i64 step, .int .i64 gx, .int .i64 gy, .int .i64 (wide : Int), .int .i64 (high : Int), .slice (some ⟨w.heap.size, 0, none⟩) n n] 133
    simp only [gCells, hl]
    exact this
  · rw [hl]
    have e : (Grd.none step gx gy wide high).on = List.replicate n false := by simp [Grd.none, hn.out]
    rw [e]
    exact (Own.lower hoS (Nat.zero_le _)).pure hga

set_option maxHeartbeats 2000000 in
theorem at_any (g b : Nat) (G : Grd) (x y : Int) (w : World) (hG : GridAt w g b G) (hx : -100000000 ≤ x ∧ x ≤ 100000000) (hy : -100000000 ≤ y ∧ y ≤ 100000000) :
    Calls Tryz.prog 85 #[.pointer (some ⟨g, 0, none⟩), .int .i64 x, .int .i64 y] w fun e w' => e = .returned (.bool (G.at x y)) ∧ w.grownBy w' none := by
  obtain ⟨c0, c1, c2, c3, c4, c5⟩ := hG.cells
  have ok := hG.ok
  have h1 := ok.x
  have h2 := ok.y
  have h3 := ok.w
  have h4 := ok.h
  have hlen := ok.n
  obtain ⟨X, hX⟩ : ∃ X, X = G.x := ⟨_, rfl⟩
  obtain ⟨Y, hY⟩ : ∃ Y, Y = G.y := ⟨_, rfl⟩
  obtain ⟨W, hW⟩ : ∃ W, W = G.wide := ⟨_, rfl⟩
  obtain ⟨H, hH⟩ : ∃ H, H = G.high := ⟨_, rfl⟩
  rw [← hX] at c1 h1
  rw [← hY] at c2 h2
  rw [← hW] at c3 h3 hlen
  rw [← hH] at c4 h4 hlen
  have hV : Hid (G.at x y = (decide (x - X ≥ 0) && decide (x - X < (W : Int)) && decide (y - Y ≥ 0) && decide (y - Y < (H : Int)) && G.on.getD ((y - Y).toNat * W + (x - X).toNat) false)) := by
    rw [Hid, Grd.at, Grd.ix, ← hX, ← hY, ← hW]
    congr 1
    rw [Bool.eq_iff_iff]
    simp only [decide_eq_true_eq, Bool.and_eq_true]
    unfold Grd.In
    rw [← hX, ← hY, ← hW, ← hH]
    omega
  have hbit := hide (fun k hk => hG.bit (k := k) hk)
  have hix : Hid (∀ p q : Nat, p < W → q < H → q * W + p < G.on.length) := fun p q hp hq => by rw [hlen]; exact ix_lt hp hq
  have hlb : G.on.length ≤ 1000000 := by rw [hlen]; exact ix_bd h3 h4
  clear hlen hX hY hW hH ok
  go_enter Tryz.func85, Tryz.ntmps85
  go_upto_region 1 with fail
  go_quiet (fail)
  go_upto_region 2 with fail
  generalize hdx : x - X = dx at *
  generalize hdy : y - Y = dy at *
  have hG0 : w.grownBy (w.drewN nq) none := gr_drewN (World.grownBy.refl _ _) nq
  generalize w.drewN nq = W0 at *
  have hG1 := hG.pure hG0
  replace c3 := hG0.k c3
  replace c4 := hG0.k c4
  replace c5 := hG0.k c5
  have hbit' : Hid (∀ k, k < G.on.length → W0.cell? ⟨b, k, none⟩ = some (.bool (G.on.getD k false))) := fun k hk => hG1.bit hk
  clear hbit hG1 c0 c1 c2 hdx hdy h1 h2 hx hy
  rcases q1 : decide (0 ≤ dx) with _ | _
  · have hV' : Hid (G.at x y = false) := by rw [Hid, hV.out, show decide (dx ≥ 0) = false from q1]; simp
    go_quiet (fail)
    go_wp2_with fail
    go_ret
    exact ⟨ret_bool hV'.out.symm, by repeat (first | exact hG0 | refine gr_drewN ?_ _)⟩
  rcases q2 : decide (dx < (W : Int)) with _ | _
  · have hV' : Hid (G.at x y = false) := by rw [Hid, hV.out, q2]; simp
    go_quiet (fail)
    go_wp2_with fail
    go_ret
    exact ⟨ret_bool hV'.out.symm, by repeat (first | exact hG0 | refine gr_drewN ?_ _)⟩
  rcases q3 : decide (0 ≤ dy) with _ | _
  · have hV' : Hid (G.at x y = false) := by rw [Hid, hV.out, show decide (dy ≥ 0) = false from q3]; simp
    go_quiet (fail)
    go_wp2_with fail
    go_ret
    exact ⟨ret_bool hV'.out.symm, by repeat (first | exact hG0 | refine gr_drewN ?_ _)⟩
  rcases q4 : decide (dy < (H : Int)) with _ | _
  · have hV' : Hid (G.at x y = false) := by rw [Hid, hV.out, q4]; simp
    go_quiet (fail)
    go_wp2_with fail
    go_ret
    exact ⟨ret_bool hV'.out.symm, by repeat (first | exact hG0 | refine gr_drewN ?_ _)⟩
  obtain ⟨p, rfl⟩ : ∃ p : Nat, dx = p := ⟨dx.toNat, by simp at q1; omega⟩
  obtain ⟨q, rfl⟩ : ∃ q : Nat, dy = q := ⟨dy.toNat, by simp at q3; omega⟩
  have hp : p < W := by simpa using q2
  have hq : q < H := by simpa using q4
  have hlt := hix.out p q hp hq
  have hV' : Hid (G.at x y = G.on.getD (q * W + p) false) := by rw [Hid, hV.out, q2, q4]; simp
  have cb := hbit'.out _ hlt
  clear hbit' hix hV
  generalize G.on.getD (q * W + p) false = v at *
  obtain ⟨k, hk⟩ : ∃ k, k = q * W + p := ⟨_, rfl⟩
  have hmul : (q : Int) * (W : Int) = ((q * W : Nat) : Int) := by simp
  have hadd : ((q * W : Nat) : Int) + (p : Int) = (k : Int) := by rw [hk]; simp
  rw [← hk] at hlt cb
  have hmb : q * W ≤ 1000000 := by omega
  generalize q * W = m at *
  replace hk := hide hk
  have hkb : k < 1000000 := by omega
  have hp0 : (p : Int) < (W : Int) := by omega
  have hq0 : (q : Int) < (H : Int) := by omega
  clear q1 q2 q3 q4
  go_quiet (fail)
  go_wp2_with fail
  go_ret
  exact ⟨ret_bool hV'.out.symm, by repeat (first | exact hG0 | refine gr_drewN ?_ _)⟩

set_option maxHeartbeats 2000000 in
set_option maxRecDepth 100000 in
theorem set_any (g b : Nat) (G : Grd) (x y : Int) (w : World) (hG : GridAt w g b G) (hi : G.In x y) :
    Calls Tryz.prog 94 #[.pointer (some ⟨g, 0, none⟩), .int .i64 x, .int .i64 y] w fun e w' => e = .returned (.tuple #[]) ∧ GridAt w' g b (G.put x y) ∧ w.grownBy w' (some b) := by
  have ok := hG.ok
  have h1 := ok.x
  have h2 := ok.y
  have h3 := ok.w
  have h4 := ok.h
  have hlt := ok.ix_lt hi
  have hlb : G.on.length ≤ 1000000 := by rw [ok.n]; exact ix_bd h3 h4
  have hin := hi
  unfold Grd.In at hin
  obtain ⟨k, hk⟩ : ∃ k, k = G.ix x y := ⟨_, rfl⟩
  have hset : ∀ W, GridAt W g b G → GridAt (W.setCell ⟨b, k, none⟩ (.bool true)) g b (G.put x y) := fun W h => by rw [hk]; exact h.set_ hi
  rw [← hk] at hlt
  have hk1 := hk
  unfold Grd.ix at hk1
  have hfr : ∀ W, w.grownBy W none → W.frozen? ⟨b, k, none⟩ = false := fun W h => (hG.pure h).on.frozen k
  have hbt : ∀ W, w.grownBy W none → W.cell? ⟨b, k, none⟩ = some (.bool (G.on.getD k false)) := fun W h => (hG.pure h).bit hlt
  obtain ⟨X, hX⟩ : ∃ X, X = G.x := ⟨_, rfl⟩
  obtain ⟨Y, hY⟩ : ∃ Y, Y = G.y := ⟨_, rfl⟩
  obtain ⟨W, hW⟩ : ∃ W, W = G.wide := ⟨_, rfl⟩
  have hc : ∀ wx, w.grownBy wx none → wx.cell? ⟨g, 1, none⟩ = some (.int .i64 X) ∧ wx.cell? ⟨g, 2, none⟩ = some (.int .i64 Y) ∧ wx.cell? ⟨g, 3, none⟩ = some (.int .i64 (W : Int)) ∧ wx.cell? ⟨g, 5, none⟩ = some (.slice (some ⟨b, 0, none⟩) G.on.length G.on.length) := fun wx h => by
    rw [hX, hY, hW]
    obtain ⟨c0, c1, c2, c3, c4, c5⟩ := (hG.pure h).cells
    exact ⟨c1, c2, c3, c5⟩
  rw [← hX, ← hY, ← hW] at hk1 hin
  rw [← hX] at h1
  rw [← hY] at h2
  rw [← hW] at h3
  obtain ⟨p, hp⟩ : ∃ p : Nat, p = (x - X).toNat := ⟨_, rfl⟩
  obtain ⟨q, hq0⟩ : ∃ q : Nat, q = (y - Y).toNat := ⟨_, rfl⟩
  rw [← hp, ← hq0] at hk1
  have hmul : (q : Int) * (W : Int) = ((q * W : Nat) : Int) := by simp
  have hmb : q * W ≤ 1000000 := by omega
  have hxb : -10000000 ≤ x ∧ x ≤ 10001000 := by omega
  have hyb : -10000000 ≤ y ∧ y ≤ 10001000 := by omega
  have e1 : y - Y = (q : Int) := by omega
  generalize q * W = m at *
  have e2 : (m : Int) + x - X = ((k : Nat) : Int) := by omega
  have hkb : k < 1000000 := by omega
  replace hk := hide hk
  replace hk1 := hide hk1
  replace hset := hide hset
  replace hfr := hide hfr
  replace hbt := hide hbt
  replace hc := hide hc
  clear hp hq0 hin ok hX hY hW hi
  go_enter Tryz.func94, Tryz.ntmps94
  refine wp_region_tree (fun wx => w.grownBy wx none) [2, 2, 2, 1, 2, 2, 2, 2, 1, 2, 2, 2, 2, 1, 2, 2, 2, 2, 2, 2, 1, 2, 2, 0] (.bl 0 (.bl 1 (.bl 2 (.bl 3 (.bl 4 (.bl 5 (.bl 6 (.bl 7 (.bl 8 (.bl 9 (.bl 10 (.bl 11 (.bl 12 (.bl 13 (.bl 14 (.bl 15 (.bl 16 (.bl 17 (.bl 18 (.bl 19 (.bl 20 (.bl 21 (.bl 22 (.ef 23 .done)))))))))))))))))))))))) (by kernel_rfl) (by kernel_rfl) (gr_drew (World.grownBy.refl _ _)) ?_
  obtain ⟨w1, hw1⟩ : ∃ x, x = (w).drew := ⟨_, rfl⟩
  rw [← hw1]
  have hgw1 : (w).grownBy w1 none := by rw [hw1]; exact gr_drew (World.grownBy.refl _ _)
  clear hw1
  refine tree_p rfl rfl rfl rfl _ rfl (by simp) (fun K hK => ?_)
  apply Exists.intro
  refine ⟨fun wq K' hK' => ?_, ?_⟩
  · go_wp2_with fail
    exact hK'
  go_simp
  refine hK _ ?_
  clear hK K
  refine tree_n rfl rfl _ rfl _ rfl ?_
  try go_simp
  refine tree_p rfl rfl rfl rfl _ rfl (by simp) (fun K hK => ?_)
  apply Exists.intro
  refine ⟨fun wq K' hK' => ?_, ?_⟩
  · go_wp2_with fail
    exact hK'
  go_simp
  refine hK _ ?_
  clear hK K
  refine tree_b rfl rfl rfl rfl _ rfl (by simp) (fun K hK => ?_)
  apply Exists.intro
  refine ⟨fun wq hq K' hK' => ?_, ?_⟩
  · obtain ⟨c1, c2, c3, c5⟩ := hc.out wq hq
    go_wp2_with fail
    exact hK'
  go_simp
  refine hK _ ?_
  clear hK K
  refine tree_p rfl rfl rfl rfl _ rfl (by simp) (fun K hK => ?_)
  apply Exists.intro
  refine ⟨fun wq K' hK' => ?_, ?_⟩
  · go_wp2_with fail
    exact hK'
  go_simp
  refine hK _ ?_
  clear hK K
  refine tree_p rfl rfl rfl rfl _ rfl (by simp) (fun K hK => ?_)
  apply Exists.intro
  refine ⟨fun wq K' hK' => ?_, ?_⟩
  · go_wp2_with fail
    exact hK'
  go_simp
  refine hK _ ?_
  clear hK K
  refine tree_n rfl rfl _ rfl _ rfl ?_
  try go_simp
  refine tree_p rfl rfl rfl rfl _ rfl (by simp) (fun K hK => ?_)
  apply Exists.intro
  refine ⟨fun wq K' hK' => ?_, ?_⟩
  · go_wp2_with fail
    exact hK'
  go_simp
  refine hK _ ?_
  clear hK K
  refine tree_b rfl rfl rfl rfl _ rfl (by simp) (fun K hK => ?_)
  apply Exists.intro
  refine ⟨fun wq hq K' hK' => ?_, ?_⟩
  · obtain ⟨c1, c2, c3, c5⟩ := hc.out wq hq
    go_wp2_with fail
    exact hK'
  go_simp
  refine hK _ ?_
  clear hK K
  refine tree_p rfl rfl rfl rfl _ rfl (by simp) (fun K hK => ?_)
  apply Exists.intro
  refine ⟨fun wq K' hK' => ?_, ?_⟩
  · go_wp2_with fail
    exact hK'
  go_simp
  refine hK _ ?_
  clear hK K
  refine tree_p rfl rfl rfl rfl _ rfl (by simp) (fun K hK => ?_)
  apply Exists.intro
  refine ⟨fun wq K' hK' => ?_, ?_⟩
  · go_wp2_with fail
    exact hK'
  go_simp
  refine hK _ ?_
  clear hK K
  refine tree_n rfl rfl _ rfl _ rfl ?_
  try go_simp
  refine tree_p rfl rfl rfl rfl _ rfl (by simp) (fun K hK => ?_)
  apply Exists.intro
  refine ⟨fun wq K' hK' => ?_, ?_⟩
  · go_wp2_with fail
    exact hK'
  go_simp
  refine hK _ ?_
  clear hK K
  refine tree_b rfl rfl rfl rfl _ rfl (by simp) (fun K hK => ?_)
  apply Exists.intro
  refine ⟨fun wq hq K' hK' => ?_, ?_⟩
  · obtain ⟨c1, c2, c3, c5⟩ := hc.out wq hq
    go_wp2_with fail
    exact hK'
  go_simp
  refine hK _ ?_
  clear hK K
  refine tree_p rfl rfl rfl rfl _ rfl (by simp) (fun K hK => ?_)
  apply Exists.intro
  refine ⟨fun wq K' hK' => ?_, ?_⟩
  · go_wp2_with fail
    exact hK'
  go_simp
  refine hK _ ?_
  clear hK K
  refine tree_p rfl rfl rfl rfl _ rfl (by simp) (fun K hK => ?_)
  apply Exists.intro
  refine ⟨fun wq K' hK' => ?_, ?_⟩
  · go_wp2_with fail
    exact hK'
  go_simp
  refine hK _ ?_
  clear hK K
  refine tree_p rfl rfl rfl rfl _ rfl (by simp) (fun K hK => ?_)
  apply Exists.intro
  refine ⟨fun wq K' hK' => ?_, ?_⟩
  · go_wp2_with fail
    exact hK'
  go_simp
  refine hK _ ?_
  clear hK K
  refine tree_p rfl rfl rfl rfl _ rfl (by simp) (fun K hK => ?_)
  apply Exists.intro
  refine ⟨fun wq K' hK' => ?_, ?_⟩
  · go_wp2_with fail
    exact hK'
  go_simp
  refine hK _ ?_
  clear hK K
  refine tree_n rfl rfl _ rfl _ rfl ?_
  try go_simp
  refine tree_p rfl rfl rfl rfl _ rfl (by simp) (fun K hK => ?_)
  apply Exists.intro
  refine ⟨fun wq K' hK' => ?_, ?_⟩
  · go_wp2_with fail
    exact hK'
  go_simp
  refine hK _ ?_
  clear hK K
  refine tree_b rfl rfl rfl rfl _ rfl (by simp) (fun K hK => ?_)
  apply Exists.intro
  refine ⟨fun wq hq K' hK' => ?_, ?_⟩
  · obtain ⟨c1, c2, c3, c5⟩ := hc.out wq hq
    go_wp2_with fail
    exact hK'
  go_simp
  refine hK _ ?_
  clear hK K
  refine tree_p rfl rfl rfl rfl _ rfl (by simp) (fun K hK => ?_)
  apply Exists.intro
  refine ⟨fun wq K' hK' => ?_, ?_⟩
  · go_wp2_with fail
    exact hK'
  go_simp
  refine hK _ ?_
  clear hK K
  refine tree_p rfl rfl rfl rfl _ rfl (by simp) (fun K hK => ?_)
  apply Exists.intro
  refine ⟨fun wq K' hK' => ?_, ?_⟩
  · go_wp2_with fail
    exact hK'
  go_simp
  refine hK _ ?_
  clear hK K
  refine tree_e0 (by kernel_rfl) rfl rfl (fun K hK => ?_)
  have hf := hfr.out w1 (gr_trans hgw1 (World.grownBy.refl _ _))
  have hb := hbt.out w1 (gr_trans hgw1 (World.grownBy.refl _ _))
  have hs := hide (hset.out w1 (hG.pure (gr_trans hgw1 (World.grownBy.refl _ _))))
  go_wp2_with fail
  try go_simp
  refine hK _ _ trivial ?_
  clear hK K
  refine tree_done ?_
  go_end0
  exact ⟨rfl, hs.out, gr_set (gr_any hgw1) (.inl rfl) _⟩

end Go.Proofs.YtgcpegjggakemaaGreatDoor

namespace Go.Proofs.YtgcpegjggakemaaGreatDoor
open Go Go.RowKit Go.Bl

set_option maxHeartbeats 4000000 in
set_option maxRecDepth 100000 in
theorem each_any (g b : Nat) (G : Grd) (FK : Nat) (B C : Array Value) (I : Nat → World → Prop) (w : World)
    (hGr : ∀ k wx, I k wx → GridAt wx g b G)
    (hskip : ∀ k wx, k < G.on.length → G.on.getD k false = false → I k wx → I (k + 1) wx)
    (hpure : ∀ k wx wy, I k wx → wx.grownBy wy none → I k wy)
    (hstep : ∀ k wx, k < G.on.length → G.on.getD k false = true → I k wx → Calls Tryz.prog FK (B ++ (#[.int .i64 (G.cx k), .int .i64 (G.cy k)] ++ C)) wx fun e w' => e = .returned (.tuple #[]) ∧ I (k + 1) w')
    (hen : ∀ (xs : Array Value) wx, (callFunc FK xs).run Tryz.prog wx = .ok (.enter FK xs) wx) (h0 : I 0 w) :
    Calls Tryz.prog 82 #[.pointer (some ⟨g, 0, none⟩), .func (.func FK) B C] w fun e w' => e = .returned (.tuple #[]) ∧ I G.on.length w' := by
  have hG := hGr 0 w h0
  have ok := hG.ok
  obtain ⟨c0, c1, c2, c3, c4, c5⟩ := hG.cells
  clear c0 c1 c2 c3 c4
  have hlb : G.on.length ≤ 1000000 := by rw [ok.n]; exact ix_bd ok.w ok.h
  have hI := hide hGr
  replace hskip := hide hskip
  replace hstep := hide hstep
  replace hpure := hide hpure
  clear hGr
  replace hen := hide hen
  go_enter Tryz.func82, Tryz.ntmps82
  go_wp2_with fail
  go_loopw [11] (fun i wr => ∃ k : Nat, k ≤ G.on.length ∧ i = .int .i64 k ∧ Hid (I k wr)) (fun i _ => G.on.length - (intOf i).toNat)
  case atStart => exact ⟨0, Nat.zero_le _, rfl, h0⟩
  case round =>
    obtain ⟨k, hk, rfl, hik⟩ := hrel
    by_cases hlt : k < G.on.length
    · have hGk := hI.out k wr hik.out
      have cb := hGk.bit hlt
      have hin := ok.in_of hlt
      rcases hv : G.on.getD k false with _ | _
      · rw [hv] at cb
        have hnx := hide (hskip.out k wr hlt hv hik.out)
        clear hik
        go_wp2_with fail
        (go_roundw; (case rel => exact ⟨k + 1, by omega, by go_num, hnx⟩); (case measure => simp [intOf]; omega))
      · rw [hv] at cb
        go_upto_region 4 with fail
        have hc : Hid (∀ wx, wr.grownBy wx none → wx.cell? ⟨g, 1, none⟩ = some (.int .i64 G.x) ∧ wx.cell? ⟨g, 2, none⟩ = some (.int .i64 G.y) ∧ wx.cell? ⟨g, 3, none⟩ = some (.int .i64 (G.wide : Int))) := fun wx h => by
          obtain ⟨c0, c1, c2, c3, c4, c5⟩ := (hGk.pure h).cells
          exact ⟨c1, c2, c3⟩
        have hW0 : G.wide ≠ 0 := by
          intro e
          have := ok.n
          rw [e] at this
          omega
        have hcall := hide (fun wx h => hstep.out k wx hlt hv (hpure.out k wr wx hik.out h))
        have hcx : G.cx k = G.x + ((k % G.wide : Nat) : Int) := rfl
        have hcy : G.cy k = G.y + ((k / G.wide : Nat) : Int) := rfl
        have hrb : k % G.wide < G.wide := Nat.mod_lt _ (by omega)
        have hqb : k / G.wide ≤ k := Nat.div_le_self _ _
        have e1 : (k : Int).tmod (G.wide : Int) = ((k % G.wide : Nat) : Int) := rfl
        have e2 : (k : Int).tdiv (G.wide : Int) = ((k / G.wide : Nat) : Int) := rfl
        have hx1 := ok.x
        have hy1 := ok.y
        have hw1 := ok.w
        clear cb c5 hin hik hGk
        generalize k % G.wide = r at *
        generalize k / G.wide = q at *
        refine wp_region_tree (fun wx => wr.grownBy wx none) [2, 2, 2, 2, 1, 2, 2, 2, 2, 1, 2, 2, 2, 2, 2, 1, 2, 2, 2, 2, 1, 2, 2, 0] (.bl 0 (.bl 1 (.bl 2 (.bl 3 (.bl 4 (.bl 5 (.bl 6 (.bl 7 (.bl 8 (.bl 9 (.bl 10 (.bl 11 (.bl 12 (.bl 13 (.bl 14 (.bl 15 (.bl 16 (.bl 17 (.bl 18 (.bl 19 (.bl 20 (.bl 21 (.bl 22 (.ef 23 .done)))))))))))))))))))))))) (by kernel_rfl) (by kernel_rfl) (gr_drew (World.grownBy.refl _ _)) ?_
        obtain ⟨w1, hw1⟩ : ∃ x, x = (wr).drew := ⟨_, rfl⟩
        rw [← hw1]
        have hgw1 : (wr).grownBy w1 none := by rw [hw1]; exact gr_drew (World.grownBy.refl _ _)
        clear hw1
        refine tree_p rfl rfl rfl rfl _ rfl (by simp) (fun K hK => ?_)
        apply Exists.intro
        refine ⟨fun wq K' hK' => ?_, ?_⟩
        · go_wp2_with fail
          exact hK'
        go_simp
        refine hK _ ?_
        clear hK K
        refine tree_p rfl rfl rfl rfl _ rfl (by simp) (fun K hK => ?_)
        apply Exists.intro
        refine ⟨fun wq K' hK' => ?_, ?_⟩
        · go_wp2_with fail
          exact hK'
        go_simp
        refine hK _ ?_
        clear hK K
        refine tree_n rfl rfl _ rfl _ rfl ?_
        try go_simp
        refine tree_p rfl rfl rfl rfl _ rfl (by simp) (fun K hK => ?_)
        apply Exists.intro
        refine ⟨fun wq K' hK' => ?_, ?_⟩
        · go_wp2_with fail
          exact hK'
        go_simp
        refine hK _ ?_
        clear hK K
        refine tree_b rfl rfl rfl rfl _ rfl (by simp) (fun K hK => ?_)
        apply Exists.intro
        refine ⟨fun wq hq K' hK' => ?_, ?_⟩
        · obtain ⟨c1, c2, c3⟩ := hc.out wq hq
          go_wp2_with fail
          exact hK'
        go_simp
        refine hK _ ?_
        clear hK K
        refine tree_p rfl rfl rfl rfl _ rfl (by simp) (fun K hK => ?_)
        apply Exists.intro
        refine ⟨fun wq K' hK' => ?_, ?_⟩
        · go_wp2_with fail
          exact hK'
        go_simp
        refine hK _ ?_
        clear hK K
        refine tree_p rfl rfl rfl rfl _ rfl (by simp) (fun K hK => ?_)
        apply Exists.intro
        refine ⟨fun wq K' hK' => ?_, ?_⟩
        · go_wp2_with fail
          exact hK'
        go_simp
        refine hK _ ?_
        clear hK K
        refine tree_n rfl rfl _ rfl _ rfl ?_
        try go_simp
        refine tree_p rfl rfl rfl rfl _ rfl (by simp) (fun K hK => ?_)
        apply Exists.intro
        refine ⟨fun wq K' hK' => ?_, ?_⟩
        · go_wp2_with fail
          exact hK'
        go_simp
        refine hK _ ?_
        clear hK K
        refine tree_b rfl rfl rfl rfl _ rfl (by simp) (fun K hK => ?_)
        apply Exists.intro
        refine ⟨fun wq hq K' hK' => ?_, ?_⟩
        · obtain ⟨c1, c2, c3⟩ := hc.out wq hq
          go_wp2_with fail
          exact hK'
        go_simp
        refine hK _ ?_
        clear hK K
        refine tree_p rfl rfl rfl rfl _ rfl (by simp) (fun K hK => ?_)
        apply Exists.intro
        refine ⟨fun wq K' hK' => ?_, ?_⟩
        · go_wp2_with fail
          exact hK'
        go_simp
        refine hK _ ?_
        clear hK K
        refine tree_p rfl rfl rfl rfl _ rfl (by simp) (fun K hK => ?_)
        apply Exists.intro
        refine ⟨fun wq K' hK' => ?_, ?_⟩
        · go_wp2_with fail
          exact hK'
        go_simp
        refine hK _ ?_
        clear hK K
        refine tree_p rfl rfl rfl rfl _ rfl (by simp) (fun K hK => ?_)
        apply Exists.intro
        refine ⟨fun wq K' hK' => ?_, ?_⟩
        · go_wp2_with fail
          exact hK'
        go_simp
        refine hK _ ?_
        clear hK K
        refine tree_n rfl rfl _ rfl _ rfl ?_
        try go_simp
        refine tree_p rfl rfl rfl rfl _ rfl (by simp) (fun K hK => ?_)
        apply Exists.intro
        refine ⟨fun wq K' hK' => ?_, ?_⟩
        · go_wp2_with fail
          exact hK'
        go_simp
        refine hK _ ?_
        clear hK K
        refine tree_b rfl rfl rfl rfl _ rfl (by simp) (fun K hK => ?_)
        apply Exists.intro
        refine ⟨fun wq hq K' hK' => ?_, ?_⟩
        · obtain ⟨c1, c2, c3⟩ := hc.out wq hq
          go_wp2_with fail
          exact hK'
        go_simp
        refine hK _ ?_
        clear hK K
        refine tree_p rfl rfl rfl rfl _ rfl (by simp) (fun K hK => ?_)
        apply Exists.intro
        refine ⟨fun wq K' hK' => ?_, ?_⟩
        · go_wp2_with fail
          exact hK'
        go_simp
        refine hK _ ?_
        clear hK K
        refine tree_p rfl rfl rfl rfl _ rfl (by simp) (fun K hK => ?_)
        apply Exists.intro
        refine ⟨fun wq K' hK' => ?_, ?_⟩
        · go_wp2_with fail
          exact hK'
        go_simp
        refine hK _ ?_
        clear hK K
        refine tree_n rfl rfl _ rfl _ rfl ?_
        try go_simp
        refine tree_p rfl rfl rfl rfl _ rfl (by simp) (fun K hK => ?_)
        apply Exists.intro
        refine ⟨fun wq K' hK' => ?_, ?_⟩
        · go_wp2_with fail
          exact hK'
        go_simp
        refine hK _ ?_
        clear hK K
        refine tree_b rfl rfl rfl rfl _ rfl (by simp) (fun K hK => ?_)
        apply Exists.intro
        refine ⟨fun wq hq K' hK' => ?_, ?_⟩
        · obtain ⟨c1, c2, c3⟩ := hc.out wq hq
          go_wp2_with fail
          exact hK'
        go_simp
        refine hK _ ?_
        clear hK K
        refine tree_p rfl rfl rfl rfl _ rfl (by simp) (fun K hK => ?_)
        apply Exists.intro
        refine ⟨fun wq K' hK' => ?_, ?_⟩
        · go_wp2_with fail
          exact hK'
        go_simp
        refine hK _ ?_
        clear hK K
        refine tree_p rfl rfl rfl rfl _ rfl (by simp) (fun K hK => ?_)
        apply Exists.intro
        refine ⟨fun wq K' hK' => ?_, ?_⟩
        · go_wp2_with fail
          exact hK'
        go_simp
        refine hK _ ?_
        clear hK K
        refine tree_e0 (by kernel_rfl) rfl rfl (fun K hK => ?_)
        have hcc := hcall.out w1 (gr_trans hgw1 (World.grownBy.refl _ _))
        rw [hcx, hcy] at hcc
        replace hcc := hide hcc
        go_wp2_with fail
        rw [hen.out, Oper.upon_enter]
        refine hcc.out.mono ?_
        rintro e w3 ⟨rfl, hi3⟩
        replace hi3 := hide hi3
        go_wp2_with fail
        try go_simp
        refine hK _ _ trivial ?_
        clear hK K
        refine tree_done ?_
        go_wp2_with fail
        (go_roundw; (case rel => exact ⟨k + 1, by omega, by go_num, hi3⟩); (case measure => simp [intOf]; omega))
    · obtain rfl : k = G.on.length := by omega
      go_wp2_with fail
      go_end0
      exact ⟨rfl, hik.out⟩

end Go.Proofs.YtgcpegjggakemaaGreatDoor

namespace Go.Bl
open Go
/-- the grid of cells while it is filled -/
def gridK (c : Cel) (m : Nat) : Grd := { gridOf c with on := (List.range (wideR c.rows * c.rows.length)).map fun k => if k < m then bit c.rows (k / wideR c.rows) (k % wideR c.rows) else false }

theorem gridK_zero (c : Cel) : gridK c 0 = Grd.none c.step (c.x / c.step) (c.y / c.step) (wideR c.rows) c.rows.length := by
  simp only [gridK, gridOf, Grd.none, Grd.mk.injEq, true_and]
  refine List.ext_getElem (by simp) fun k h1 h2 => ?_
  simp

theorem gridK_all (c : Cel) {m : Nat} (h : wideR c.rows * c.rows.length ≤ m) : gridK c m = gridOf c := by
  simp only [gridK, gridOf, Grd.mk.injEq, true_and]
  refine List.map_congr_left fun k hk => ?_
  have := List.mem_range.1 hk
  rw [if_pos (by omega)]

theorem gridK_len (c : Cel) (m : Nat) : (gridK c m).on.length = wideR c.rows * c.rows.length := by simp [gridK]

theorem gridK_next (c : Cel) {x y : Nat} (hx : x < wideR c.rows) : { gridK c (y * wideR c.rows + x) with on := (gridK c (y * wideR c.rows + x)).on.set (y * wideR c.rows + x) (bit c.rows y x) } = gridK c (y * wideR c.rows + (x + 1)) := by
  have e1 : (y * wideR c.rows + x) / wideR c.rows = y := by rw [Nat.mul_comm, Nat.mul_add_div (by omega), Nat.div_eq_of_lt hx]; omega
  have e2 : (y * wideR c.rows + x) % wideR c.rows = x := by rw [Nat.mul_comm, Nat.mul_add_mod]; exact Nat.mod_eq_of_lt hx
  simp only [gridK, Grd.mk.injEq, true_and]
  refine List.ext_getElem (by simp) fun k h1 h2 => ?_
  rw [List.getElem_set]
  simp only [List.getElem_map, List.getElem_range]
  by_cases hk : y * wideR c.rows + x = k
  · subst hk
    rw [if_pos rfl, if_pos (by omega), e1, e2]
  · rw [if_neg hk]
    by_cases h3 : k < y * wideR c.rows + x
    · rw [if_pos h3, if_pos (by omega)]
    · rw [if_neg h3, if_neg (by omega)]

theorem gridOf_nil {c : Cel} (h : CellsOk c) (h0 : c.rows.length = 0) : gridOf c = Grd.none c.step 0 0 0 0 := by
  obtain ⟨h1, h2⟩ := h.nil h0
  have hn : c.rows = [] := List.eq_nil_of_length_eq_zero h0
  simp [gridOf, Grd.none, h1, h2, hn, wideR]

theorem gridK_ok {c : Cel} (h : CellsOk c) (m : Nat) : (gridK c m).Ok :=
  let k := gridOf_ok h
  ⟨k.s, k.x, k.y, k.w, k.h, gridK_len c m⟩

theorem tdiv_mult {a d : Int} (h : multB a d = true) : a.tdiv d = a / d := by
  simp only [multB, beq_iff_eq] at h
  have h1 : d ∣ a := Int.dvd_of_tmod_eq_zero h
  exact Int.tdiv_eq_ediv_of_dvd h1

end Go.Bl
namespace Go.Proofs.YtgcpegjggakemaaGreatDoor
open Go Go.RowKit Go.Bl

theorem GridAt.setb {w : World} {g b : Nat} {G : Grd} (h : GridAt w g b G) {k : Nat} (hl : k < G.on.length) (v : Bool) : GridAt (w.setCell ⟨b, k, none⟩ (.bool v)) g b { G with on := G.on.set k v } := by
  have hu := h.on.put (i := k) (j := 0) (x := v) (u := .bool v) hl (by decide) (by rintro c1 rfl; rfl)
  rw [show k * Enc.sz Bool + 0 = k from by rw [show Enc.sz Bool = 1 from rfl]; omega] at hu
  have e : (G.on.set k v).length = G.on.length := by simp
  refine ⟨⟨h.ok.s, h.ok.x, h.ok.y, h.ok.w, h.ok.h, by simp [h.ok.n]⟩, ?_, ?_⟩
  · have := h.bx.set_other (g' := b) (i := k) (.bool v) h.ne
    rw [show gCells { G with on := G.on.set k v } b = gCells G b by simp [gCells]]; exact this
  · show Own _ 0 _ _ (G.on.set k v).length (G.on.set k v)
    rw [e]; exact hu

set_option maxHeartbeats 4000000 in
set_option maxRecDepth 100000 in
theorem gridOf_any (st px py : Int) (A : Option Addr) (n cc : Nat) (rows : List ByteArray) (w : World) (hl : Sl w 0 A rows) (hn : rows.length = n) (hok : CellsOk ⟨st, px, py, rows⟩) :
    Calls Tryz.prog 81 #[.agg #[.int .i64 st, .int .i64 px, .int .i64 py, .slice A n cc]] w fun e w' => ∃ g b, e = .returned (.pointer (some ⟨g, 0, none⟩)) ∧ GridAt w' g b (gridOf ⟨st, px, py, rows⟩) ∧ w.grownBy w' none ∧ w.heap.size ≤ g ∧ w.heap.size ≤ b := by
  subst hn
  have hm := hl.1
  unfold maxLen at hm
  by_cases h0 : rows.length = 0
  · have hgn := gridOf_nil hok h0
    have hN := fun W => newGrid_any st 0 0 0 0 W ⟨by simpa [Grd.none] using step_pos hok.step, by simp [Grd.none], by simp [Grd.none], by simp [Grd.none], by simp [Grd.none], by simp [Grd.none]⟩
    have hb0 : ((rows.length : Int) == 0) = true := by simp [h0]
    rw [hgn]
    clear hgn h0
    replace hN := hide hN
    go_enter Tryz.func81, Tryz.ntmps81
    go_upto_region 1 with fail
    obtain ⟨w1, hw1⟩ : ∃ x, x = (w).alloc (.cells [.int .i64 st, .int .i64 px, .int .i64 py, .slice A rows.length cc].toArray 34) := ⟨_, rfl⟩
    have hg1 : (w).grownBy w1 none := by rw [hw1]; exact gr_alloc (World.grownBy.refl _ _) _
    have hb1 : Box w1 (w).heap.size 34 [.int .i64 st, .int .i64 px, .int .i64 py, .slice A rows.length cc] := by rw [hw1]; exact Box.new _ _ _
    have hxs1 := hb1.lt
    rw [← hw1]
    clear hw1
    obtain ⟨x1, hx1⟩ : ∃ x, x = (w).heap.size := ⟨_, rfl⟩
    rw [← hx1] at hb1 hxs1 ⊢
    have hxl1 : (w).heap.size ≤ x1 := by omega
    clear hx1
    obtain ⟨c0, -⟩ := hb1.c 0 rfl
    obtain ⟨c3, -⟩ := hb1.c 3 rfl
    have hsz := hg1.size
    clear hxs1 hxl1
    go_wp2_with fail
    refine (hN.out w1).mono ?_
    rintro e w2 ⟨g, b, rfl, hG, hg2, hg, hb⟩
    go_wp2_with fail
    go_ret
    exact ⟨g, b, rfl, hG, hg1.t hg2, by omega, by omega⟩
  · have h1 : 0 < rows.length := by omega
    obtain ⟨g0, o, rfl, -, hcell⟩ := sl_strs hl h1
    have hg0 : g0 < w.heap.size := cell_lt (hcell 0 h1)
    have hq1 := tdiv_mult hok.mx
    have hq2 := tdiv_mult hok.my
    have hst := step_pos hok.step
    simp only at hq1 hq2 hst
    have hgok := gridOf_ok hok
    have hkok := gridK_ok hok 0
    rw [gridK_zero] at hkok
    simp only at hkok
    have hwd := wide_at h1
    obtain ⟨WD, hWD⟩ : ∃ x, x = wideR rows := ⟨_, rfl⟩
    rw [← hWD] at hkok hwd
    obtain ⟨X, hX⟩ : ∃ x, x = px / st := ⟨_, rfl⟩
    obtain ⟨Y, hY⟩ : ∃ x, x = py / st := ⟨_, rfl⟩
    have hXb : -10000000 ≤ X ∧ X ≤ 10000000 := by rw [hX]; exact hgok.x
    have hYb : -10000000 ≤ Y ∧ Y ≤ 10000000 := by rw [hY]; exact hgok.y
    rw [← hX] at hq1 hkok
    rw [← hY] at hq2 hkok
    replace hX := hide hX
    replace hY := hide hY
    replace hWD := hide hWD
    have hN := fun W => newGrid_any st X Y WD rows.length W hkok
    have hb0 : ((rows.length : Int) == 0) = false := by rw [beq_eq_false_iff_ne]; omega
    have hs0 : ¬ st = 0 := by omega
    have hc0 := hcell 0 h1
    rw [Nat.add_zero] at hc0
    have hsz : (rows[0].size : Int) = (WD : Int) := by rw [hwd]
    replace hN := hide hN
    replace hcell := hide hcell
    clear hkok
    go_enter Tryz.func81, Tryz.ntmps81
    go_upto_region 1 with fail
    obtain ⟨w1, hw1⟩ : ∃ x, x = (w).alloc (.cells [.int .i64 st, .int .i64 px, .int .i64 py, .slice (some ⟨g0, o, none⟩) rows.length cc].toArray 34) := ⟨_, rfl⟩
    have hg1 : (w).grownBy w1 none := by rw [hw1]; exact gr_alloc (World.grownBy.refl _ _) _
    have hb1 : Box w1 (w).heap.size 34 [.int .i64 st, .int .i64 px, .int .i64 py, .slice (some ⟨g0, o, none⟩) rows.length cc] := by rw [hw1]; exact Box.new _ _ _
    have hxs1 := hb1.lt
    rw [← hw1]
    clear hw1
    obtain ⟨x1, hx1⟩ : ∃ x, x = (w).heap.size := ⟨_, rfl⟩
    rw [← hx1] at hb1 hxs1 ⊢
    have hxl1 : (w).heap.size ≤ x1 := by omega
    clear hx1
    obtain ⟨c0, -⟩ := hb1.c 0 rfl
    obtain ⟨c3, -⟩ := hb1.c 3 rfl
    obtain ⟨c1, -⟩ := hb1.c 1 rfl
    obtain ⟨c2, -⟩ := hb1.c 2 rfl
    go_upto_region 3 with fail
    have hc : Hid (∀ wx, w1.grownBy wx none → wx.cell? ⟨x1, 0, none⟩ = some (.int .i64 st) ∧ wx.cell? ⟨x1, 1, none⟩ = some (.int .i64 px) ∧ wx.cell? ⟨x1, 2, none⟩ = some (.int .i64 py) ∧ wx.cell? ⟨x1, 3, none⟩ = some (.slice (some ⟨g0, o, none⟩) rows.length cc) ∧ wx.cell? ⟨g0, o, none⟩ = some (.string rows[0])) := fun wx h => ⟨h.k c0, h.k c1, h.k c2, h.k c3, (hg1.t h).k hc0⟩
    clear c0 c1 c2 hc0
    generalize rows[0] = r0 at *
    refine wp_region_tree (fun wx => w1.grownBy wx none) [2, 1, 2, 1, 2, 1, 2, 2, 1, 2, 1, 2, 2, 1, 2, 1, 2, 2, 1, 2, 0, 2] (.bl 0 (.bl 1 (.bl 2 (.bl 3 (.bl 4 (.bl 5 (.bl 6 (.bl 7 (.bl 8 (.bl 9 (.bl 10 (.bl 11 (.bl 12 (.bl 13 (.bl 14 (.bl 15 (.bl 16 (.bl 17 (.bl 18 (.bl 19 (.ef 20 (.bl 21 .done)))))))))))))))))))))) (by kernel_rfl) (by kernel_rfl) (gr_drew (World.grownBy.refl _ _)) ?_
    obtain ⟨w2, hw2⟩ : ∃ x, x = (w1).drew := ⟨_, rfl⟩
    rw [← hw2]
    have hgw2 : (w1).grownBy w2 none := by rw [hw2]; exact gr_drew (World.grownBy.refl _ _)
    clear hw2
    refine tree_p rfl rfl rfl rfl _ rfl (by simp) (fun K hK => ?_)
    apply Exists.intro
    refine ⟨fun wq K' hK' => ?_, ?_⟩
    · go_wp2_with fail
      exact hK'
    go_simp
    refine hK _ ?_
    clear hK K
    refine tree_b rfl rfl rfl rfl _ rfl (by simp) (fun K hK => ?_)
    apply Exists.intro
    refine ⟨fun wq hq K' hK' => ?_, ?_⟩
    · obtain ⟨d0, d1, d2, d3, d4⟩ := hc.out wq hq
      go_wp2_with fail
      exact hK'
    go_simp
    refine hK _ ?_
    clear hK K
    refine tree_p rfl rfl rfl rfl _ rfl (by simp) (fun K hK => ?_)
    apply Exists.intro
    refine ⟨fun wq K' hK' => ?_, ?_⟩
    · go_wp2_with fail
      exact hK'
    go_simp
    refine hK _ ?_
    clear hK K
    refine tree_b rfl rfl rfl rfl _ rfl (by simp) (fun K hK => ?_)
    apply Exists.intro
    refine ⟨fun wq hq K' hK' => ?_, ?_⟩
    · obtain ⟨d0, d1, d2, d3, d4⟩ := hc.out wq hq
      go_wp2_with fail
      exact hK'
    go_simp
    refine hK _ ?_
    clear hK K
    refine tree_p rfl rfl rfl rfl _ rfl (by simp) (fun K hK => ?_)
    apply Exists.intro
    refine ⟨fun wq K' hK' => ?_, ?_⟩
    · go_wp2_with fail
      exact hK'
    go_simp
    refine hK _ ?_
    clear hK K
    refine tree_b rfl rfl rfl rfl _ rfl (by simp) (fun K hK => ?_)
    apply Exists.intro
    refine ⟨fun wq hq K' hK' => ?_, ?_⟩
    · obtain ⟨d0, d1, d2, d3, d4⟩ := hc.out wq hq
      go_wp2_with fail
      exact hK'
    go_simp
    refine hK _ ?_
    clear hK K
    refine tree_p rfl rfl rfl rfl _ rfl (by simp) (fun K hK => ?_)
    apply Exists.intro
    refine ⟨fun wq K' hK' => ?_, ?_⟩
    · go_wp2_with fail
      exact hK'
    go_simp
    refine hK _ ?_
    clear hK K
    refine tree_p rfl rfl rfl rfl _ rfl (by simp) (fun K hK => ?_)
    apply Exists.intro
    refine ⟨fun wq K' hK' => ?_, ?_⟩
    · go_wp2_with fail
      exact hK'
    go_simp
    refine hK _ ?_
    clear hK K
    refine tree_b rfl rfl rfl rfl _ rfl (by simp) (fun K hK => ?_)
    apply Exists.intro
    refine ⟨fun wq hq K' hK' => ?_, ?_⟩
    · obtain ⟨d0, d1, d2, d3, d4⟩ := hc.out wq hq
      go_wp2_with fail
      exact hK'
    go_simp
    refine hK _ ?_
    clear hK K
    refine tree_p rfl rfl rfl rfl _ rfl (by simp) (fun K hK => ?_)
    apply Exists.intro
    refine ⟨fun wq K' hK' => ?_, ?_⟩
    · go_wp2_with fail
      exact hK'
    go_simp
    refine hK _ ?_
    clear hK K
    refine tree_b rfl rfl rfl rfl _ rfl (by simp) (fun K hK => ?_)
    apply Exists.intro
    refine ⟨fun wq hq K' hK' => ?_, ?_⟩
    · obtain ⟨d0, d1, d2, d3, d4⟩ := hc.out wq hq
      go_wp2_with fail
      exact hK'
    go_simp
    refine hK _ ?_
    clear hK K
    refine tree_p rfl rfl rfl rfl _ rfl (by simp) (fun K hK => ?_)
    apply Exists.intro
    refine ⟨fun wq K' hK' => ?_, ?_⟩
    · go_wp2_with fail
      exact hK'
    go_simp
    refine hK _ ?_
    clear hK K
    refine tree_p rfl rfl rfl rfl _ rfl (by simp) (fun K hK => ?_)
    apply Exists.intro
    refine ⟨fun wq K' hK' => ?_, ?_⟩
    · go_wp2_with fail
      exact hK'
    go_simp
    refine hK _ ?_
    clear hK K
    refine tree_b rfl rfl rfl rfl _ rfl (by simp) (fun K hK => ?_)
    apply Exists.intro
    refine ⟨fun wq hq K' hK' => ?_, ?_⟩
    · obtain ⟨d0, d1, d2, d3, d4⟩ := hc.out wq hq
      go_wp2_with fail
      exact hK'
    go_simp
    refine hK _ ?_
    clear hK K
    refine tree_p rfl rfl rfl rfl _ rfl (by simp) (fun K hK => ?_)
    apply Exists.intro
    refine ⟨fun wq K' hK' => ?_, ?_⟩
    · go_wp2_with fail
      exact hK'
    go_simp
    refine hK _ ?_
    clear hK K
    refine tree_b rfl rfl rfl rfl _ rfl (by simp) (fun K hK => ?_)
    apply Exists.intro
    refine ⟨fun wq hq K' hK' => ?_, ?_⟩
    · obtain ⟨d0, d1, d2, d3, d4⟩ := hc.out wq hq
      go_wp2_with fail
      exact hK'
    go_simp
    refine hK _ ?_
    clear hK K
    refine tree_p rfl rfl rfl rfl _ rfl (by simp) (fun K hK => ?_)
    apply Exists.intro
    refine ⟨fun wq K' hK' => ?_, ?_⟩
    · go_wp2_with fail
      exact hK'
    go_simp
    refine hK _ ?_
    clear hK K
    refine tree_p rfl rfl rfl rfl _ rfl (by simp) (fun K hK => ?_)
    apply Exists.intro
    refine ⟨fun wq K' hK' => ?_, ?_⟩
    · go_wp2_with fail
      exact hK'
    go_simp
    refine hK _ ?_
    clear hK K
    refine tree_b rfl rfl rfl rfl _ rfl (by simp) (fun K hK => ?_)
    apply Exists.intro
    refine ⟨fun wq hq K' hK' => ?_, ?_⟩
    · obtain ⟨d0, d1, d2, d3, d4⟩ := hc.out wq hq
      go_wp2_with fail
      exact hK'
    go_simp
    refine hK _ ?_
    clear hK K
    refine tree_p rfl rfl rfl rfl _ rfl (by simp) (fun K hK => ?_)
    apply Exists.intro
    refine ⟨fun wq K' hK' => ?_, ?_⟩
    · go_wp2_with fail
      exact hK'
    go_simp
    refine hK _ ?_
    clear hK K
    refine tree_e0 (by kernel_rfl) rfl rfl (fun K hK => ?_)
    go_wp2_with fail
    refine (hN.out w2).mono ?_
    rintro e w3 ⟨gg, gb, rfl, hG3, hg3, hgg, hgb⟩
    go_wp2_with fail
    try go_simp
    refine hK _ _ trivial ?_
    clear hK K
    refine tree_p rfl rfl rfl rfl _ rfl (by simp) (fun K hK => ?_)
    apply Exists.intro
    refine ⟨fun wq K' hK' => ?_, ?_⟩
    · go_wp2_with fail
      exact hK'
    go_simp
    refine hK _ ?_
    clear hK K
    refine tree_done ?_
    have hw2 : w.grownBy w2 none := hg1.t hgw2
    have hw3 : w.grownBy w3 none := hw2.t hg3
    have hgb0 : w.heap.size ≤ gb := Nat.le_trans hw2.size hgb
    have hgg0 : w.heap.size ≤ gg := Nat.le_trans hw2.size hgg
    have hxb : gb ≠ x1 := fun e => by have := hgw2.size; omega
    have hgb1 : gb ≠ g0 := by omega
    obtain ⟨C0, hC0⟩ : ∃ x : Cel, x = ⟨st, px, py, rows⟩ := ⟨_, rfl⟩
    have e1 : C0.step = st := by rw [hC0]
    have e2 : C0.x = px := by rw [hC0]
    have e3 : C0.y = py := by rw [hC0]
    have e4 : C0.rows = rows := by rw [hC0]
    have hG0 : GridAt w3 gg gb (gridK C0 (0 * WD)) := by
      rw [Nat.zero_mul, gridK_zero, e1, e2, e3, e4, ← hX.out, ← hY.out, ← hWD.out]; exact hG3
    have hwW : wideR C0.rows = WD := by rw [e4, hWD.out]
    have hcK : Hid (∀ wx, w3.grownBy wx (some gb) → wx.cell? ⟨x1, 3, none⟩ = some (.slice (some ⟨g0, o, none⟩) rows.length cc) ∧ ∀ k (h : k < rows.length), wx.cell? ⟨g0, o + k, none⟩ = some (.string rows[k])) := fun wx h =>
      ⟨gr_cell h ((hgw2.t hg3).k c3) (by intro e; injection e with e; exact hxb e), fun k hk => gr_cell h (hw3.k (hcell.out k hk)) (by intro e; injection e with e; exact hgb1 e)⟩
    have hrow : Hid (∀ k (h : k < rows.length), rows[k].size = WD) := fun k hk => by
      have := (hok.row k hk).1
      rw [getD_of hk] at this
      rw [this, hWD.out]
    have hfin : Hid (∀ wx, GridAt wx gg gb (gridK C0 (rows.length * WD)) → GridAt wx gg gb (gridOf ⟨st, px, py, rows⟩)) := fun wx h => by
      rw [← hC0]
      rw [gridK_all C0 (by rw [hwW, e4, Nat.mul_comm]; exact Nat.le_refl _)] at h; exact h
    have hnx : Hid (∀ y x, x < WD → { gridK C0 (y * WD + x) with on := (gridK C0 (y * WD + x)).on.set (y * WD + x) (bit rows y x) } = gridK C0 (y * WD + (x + 1))) := fun y x hx => by
      have := gridK_next C0 (x := x) (y := y) (by rw [hwW]; exact hx)
      rw [hwW, e4] at this
      exact this
    have hlen : Hid (∀ m, (gridK C0 m).on.length = WD * rows.length) := fun m => by rw [Hid.out (p := _) (gridK_len C0 m), hwW, e4]
    have hwK : Hid (∀ m, (gridK C0 m).wide = WD) := fun m => hwW
    have hwb : WD ≤ 200 := by have := hok.wide; simp only at this; rw [← hWD.out] at this; exact this
    have hhb : rows.length ≤ 200 := hok.many
    replace hC0 := hide hC0
    replace hwW := hide hwW
    have hself := World.grownBy.refl w3 (some gb)
    obtain ⟨c3', -⟩ := hcK.out w3 hself
    clear hG3 hc hcell hgok hok hl hX hY hWD e1 e2 e3 e4 c3 hb1 hN hq1 hq2 hXb hYb hwd hsz hst hs0
    go_wp2_with fail
    go_loopw [38] (fun i wr => ∃ y : Nat, y ≤ rows.length ∧ i = .int .i64 y ∧ Hid (GridAt wr gg gb (gridK C0 (y * WD))) ∧ w3.grownBy wr (some gb)) (fun i _ => rows.length - (intOf i).toNat)
    case atStart => exact ⟨0, Nat.zero_le _, rfl, hG0, hself⟩
    case round =>
      clear hG0 hself c3'
      obtain ⟨y, hy, rfl, hGy, hgy⟩ := hrel
      by_cases hlt : y < rows.length
      · obtain ⟨d3, dk⟩ := hcK.out wr hgy
        have dy := dk y hlt
        have hsy := hrow.out y hlt
        have hbit : Hid (∀ x, bit rows y x = (byt rows[y] x == 35)) := fun x => by rw [bit, getD_of hlt]
        clear dk
        generalize rows[y] = s at *
        have hsz : (s.size : Int) = (WD : Int) := by omega
        replace hsy := hide hsy
        obtain ⟨wa, rfl⟩ : ∃ x, x = wr := ⟨_, rfl⟩
        go_wp2_with fail
        go_loopw [45] (fun i wr => ∃ x : Nat, x ≤ WD ∧ i = .int .i64 x ∧ Hid (GridAt wr gg gb (gridK C0 (y * WD + x))) ∧ w3.grownBy wr (some gb)) (fun i _ => WD - (intOf i).toNat)
        case atStart => exact ⟨0, Nat.zero_le _, rfl, by rw [Nat.add_zero]; exact hGy, hgy⟩
        case round =>
          obtain ⟨x, hx, rfl, hGx, hgx⟩ := hrel
          by_cases hxl : x < WD
          · have hbt := byt_get (show x < s.size by rw [hsy.out]; exact hxl)
            have hb := hbit.out x
            rw [show (byt s x == 35) = (((byt s x).toNat : Int) == 35) from (u8_35 _).symm] at hb
            have hGx' := hGx.out
            have hk : y * WD + x < (gridK C0 (y * WD + x)).on.length := by rw [hlen.out]; exact ix_lt hxl hlt
            have hfr := fun W (h : wr.grownBy W none) => (hGx'.pure h).on.frozen (y * WD + x)
            have hcb := fun W (h : wr.grownBy W none) => (hGx'.pure h).bit hk
            have hset := fun W (h : wr.grownBy W none) => (hGx'.pure h).setb hk (bit rows y x)
            rw [hnx.out y x hxl, hb] at hset
            have hcs := fun W (h : wr.grownBy W none) => (hGx'.pure h).cells
            rw [hwK.out] at hcs
            rw [hlen.out] at hk hcs
            have hmul : (y : Int) * (WD : Int) = ((y * WD : Nat) : Int) := by simp
            have hmb : WD * rows.length ≤ 1000000 := ix_bd (by omega) (by omega)
            replace hcs := hide hcs
            replace hset := hide hset
            replace hfr := hide hfr
            replace hcb := hide hcb
            have hxb2 : (x : Int) < (WD : Int) := by omega
            clear hGx hGx' dy d3 hnx hb hbit
            generalize byt s x = bb at *
            obtain ⟨m, hm⟩ : ∃ m, m = y * WD + x := ⟨_, rfl⟩
            have hma : ((y * WD : Nat) : Int) + (x : Int) = (m : Int) := by rw [hm]; simp
            rw [← hm] at hcs hset hfr hcb hk
            have hm1 : y * WD + (x + 1) = m + 1 := by omega
            rw [hm1] at hset
            have hmm : m < 1000000 := by omega
            have hyw : y * WD ≤ 1000000 := by omega
            replace hm := hide hm
            replace hm1 := hide hm1
            generalize y * WD = yw at *
            generalize WD * rows.length = nn at *
            obtain ⟨wb, rfl⟩ : ∃ x, x = wr := ⟨_, rfl⟩
            go_upto_region 10 with fail
            refine wp_region_tree (fun wx => wb.grownBy wx none) [2, 2, 2, 1, 2, 2, 2, 2, 1, 2, 2, 2, 2, 2, 2, 2, 2, 0] (.bl 0 (.bl 1 (.bl 2 (.bl 3 (.bl 4 (.bl 5 (.bl 6 (.bl 7 (.bl 8 (.bl 9 (.bl 10 (.bl 11 (.bl 12 (.bl 13 (.bl 14 (.bl 15 (.bl 16 (.ef 17 .done)))))))))))))))))) (by kernel_rfl) (by kernel_rfl) (gr_drew (World.grownBy.refl _ _)) ?_
            obtain ⟨w4, hw4⟩ : ∃ x, x = (wb).drew := ⟨_, rfl⟩
            rw [← hw4]
            have hgw4 : (wb).grownBy w4 none := by rw [hw4]; exact gr_drew (World.grownBy.refl _ _)
            clear hw4
            refine tree_p rfl rfl rfl rfl _ rfl (by simp) (fun K hK => ?_)
            apply Exists.intro
            refine ⟨fun wq K' hK' => ?_, ?_⟩
            · go_wp2_with fail
              exact hK'
            go_simp
            refine hK _ ?_
            clear hK K
            refine tree_n rfl rfl _ rfl _ rfl ?_
            try go_simp
            refine tree_p rfl rfl rfl rfl _ rfl (by simp) (fun K hK => ?_)
            apply Exists.intro
            refine ⟨fun wq K' hK' => ?_, ?_⟩
            · go_wp2_with fail
              exact hK'
            go_simp
            refine hK _ ?_
            clear hK K
            refine tree_b rfl rfl rfl rfl _ rfl (by simp) (fun K hK => ?_)
            apply Exists.intro
            refine ⟨fun wq hq K' hK' => ?_, ?_⟩
            · obtain ⟨d0, d1, d2, d3, d4, d5⟩ := hcs.out wq hq
              go_wp2_with fail
              exact hK'
            go_simp
            refine hK _ ?_
            clear hK K
            refine tree_p rfl rfl rfl rfl _ rfl (by simp) (fun K hK => ?_)
            apply Exists.intro
            refine ⟨fun wq K' hK' => ?_, ?_⟩
            · go_wp2_with fail
              exact hK'
            go_simp
            refine hK _ ?_
            clear hK K
            refine tree_p rfl rfl rfl rfl _ rfl (by simp) (fun K hK => ?_)
            apply Exists.intro
            refine ⟨fun wq K' hK' => ?_, ?_⟩
            · go_wp2_with fail
              exact hK'
            go_simp
            refine hK _ ?_
            clear hK K
            refine tree_n rfl rfl _ rfl _ rfl ?_
            try go_simp
            refine tree_p rfl rfl rfl rfl _ rfl (by simp) (fun K hK => ?_)
            apply Exists.intro
            refine ⟨fun wq K' hK' => ?_, ?_⟩
            · go_wp2_with fail
              exact hK'
            go_simp
            refine hK _ ?_
            clear hK K
            refine tree_b rfl rfl rfl rfl _ rfl (by simp) (fun K hK => ?_)
            apply Exists.intro
            refine ⟨fun wq hq K' hK' => ?_, ?_⟩
            · obtain ⟨d0, d1, d2, d3, d4, d5⟩ := hcs.out wq hq
              go_wp2_with fail
              exact hK'
            go_simp
            refine hK _ ?_
            clear hK K
            refine tree_p rfl rfl rfl rfl _ rfl (by simp) (fun K hK => ?_)
            apply Exists.intro
            refine ⟨fun wq K' hK' => ?_, ?_⟩
            · go_wp2_with fail
              exact hK'
            go_simp
            refine hK _ ?_
            clear hK K
            refine tree_p rfl rfl rfl rfl _ rfl (by simp) (fun K hK => ?_)
            apply Exists.intro
            refine ⟨fun wq K' hK' => ?_, ?_⟩
            · go_wp2_with fail
              exact hK'
            go_simp
            refine hK _ ?_
            clear hK K
            refine tree_p rfl rfl rfl rfl _ rfl (by simp) (fun K hK => ?_)
            apply Exists.intro
            refine ⟨fun wq K' hK' => ?_, ?_⟩
            · go_wp2_with fail
              exact hK'
            go_simp
            refine hK _ ?_
            clear hK K
            refine tree_p rfl rfl rfl rfl _ rfl (by simp) (fun K hK => ?_)
            apply Exists.intro
            refine ⟨fun wq K' hK' => ?_, ?_⟩
            · go_wp2_with fail
              exact hK'
            go_simp
            refine hK _ ?_
            clear hK K
            refine tree_p rfl rfl rfl rfl _ rfl (by simp) (fun K hK => ?_)
            apply Exists.intro
            refine ⟨fun wq K' hK' => ?_, ?_⟩
            · go_wp2_with fail
              exact hK'
            go_simp
            refine hK _ ?_
            clear hK K
            refine tree_p rfl rfl rfl rfl _ rfl (by simp) (fun K hK => ?_)
            apply Exists.intro
            refine ⟨fun wq K' hK' => ?_, ?_⟩
            · go_wp2_with fail
              exact hK'
            go_simp
            refine hK _ ?_
            clear hK K
            refine tree_p rfl rfl rfl rfl _ rfl (by simp) (fun K hK => ?_)
            apply Exists.intro
            refine ⟨fun wq K' hK' => ?_, ?_⟩
            · go_wp2_with fail
              exact hK'
            go_simp
            refine hK _ ?_
            clear hK K
            refine tree_p rfl rfl rfl rfl _ rfl (by simp) (fun K hK => ?_)
            apply Exists.intro
            refine ⟨fun wq K' hK' => ?_, ?_⟩
            · go_wp2_with fail
              exact hK'
            go_simp
            refine hK _ ?_
            clear hK K
            refine tree_e0 (by kernel_rfl) rfl rfl (fun K hK => ?_)
            have hff := hfr.out w4 (gr_trans hgw4 (World.grownBy.refl _ _))
            have hbb := hcb.out w4 (gr_trans hgw4 (World.grownBy.refl _ _))
            have hss := hide (hset.out w4 (gr_trans hgw4 (World.grownBy.refl _ _)))
            go_wp2_with fail
            try go_simp
            refine hK _ _ trivial ?_
            clear hK K
            refine tree_done ?_
            have hgz := gr_set (gr_trans hgx (gr_any hgw4)) (p := ⟨gb, m, none⟩) (.inl rfl) (.bool (((bb.toNat : Nat) : Int) == 35))
            go_wp2_with fail
            (go_roundw; (case rel => exact ⟨x + 1, by omega, by go_num, by rw [hm1.out]; exact hss, hgz⟩); (case measure => simp [intOf]; omega))
          · obtain rfl : x = WD := by omega
            have hnn : Hid (GridAt wr gg gb (gridK C0 ((y + 1) * x))) := by rw [Nat.add_mul, Nat.one_mul]; exact hGx
            go_wp2_with fail
            (go_roundw; (case rel => exact ⟨y + 1, by omega, by go_num, hnn, hgx⟩); (case measure => simp [intOf]; omega))
      · obtain rfl : y = rows.length := by omega
        have hf := hfin.out wr hGy.out
        go_wp2_with fail
        go_ret
        exact ⟨gg, gb, rfl, hf, gr_new hw3 hgy hgb0, hgg0, hgb0⟩

end Go.Proofs.YtgcpegjggakemaaGreatDoor
