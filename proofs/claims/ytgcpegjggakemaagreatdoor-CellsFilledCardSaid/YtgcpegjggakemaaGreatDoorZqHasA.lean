/- Contracts of functions that this seat's laws reach, each: what one call returns and what it leaves in memory; no condition beyond each theorem's own hypotheses. -/
import Derived.Test.YtgcpegjggakemaaGreatDoorZqCelM
import Derived.Test.YtgcpegjggakemaaGreatDoorZqTwo
import Derived.Test.YtgcpegjggakemaaGreatDoorZqFillOut
import Derived.Lib.SliceRun
import Derived.Deep.DeepCutAuto
import Derived.Test.YtgcpegjggakemaaGreatDoorZqPathC
set_option linter.unusedVariables false
set_option linter.unusedSimpArgs false
namespace Go.Bl
open Go

theorem floor_eq {n d : Int} (hd : 1 ≤ d) : n / d = if n.tmod d < 0 then n.tdiv d - 1 else n.tdiv d := by
  have h1 := Int.mul_tdiv_add_tmod n d
  have h2 := Int.mul_ediv_add_emod n d
  by_cases h : n.tmod d < 0
  · rw [if_pos h]
    have h3 := tmod_neg h hd
    have h4 : d * (n / d) = d * (n.tdiv d - 1) := by rw [Int.mul_sub, Int.mul_one]; omega
    exact Int.eq_of_mul_eq_mul_left (by omega) h4
  · rw [if_neg h]
    have h3 := tmod_pos (x := n) (n := d) (by omega) hd
    have h4 : d * (n / d) = d * (n.tdiv d) := by omega
    exact Int.eq_of_mul_eq_mul_left (by omega) h4

theorem tdiv_bd {n d B : Int} (hd : 1 ≤ d) (h : -B ≤ n ∧ n ≤ B) : -B ≤ n.tdiv d ∧ n.tdiv d ≤ B := by
  have h1 : (n.tdiv d).natAbs ≤ n.natAbs := by rw [Int.natAbs_tdiv]; exact Nat.div_le_self _ _
  omega

theorem ceil_bd {n d : Int} (hd : 0 < d) : n ≤ ceilQ n d * d ∧ ceilQ n d * d < n + d := by
  unfold ceilQ
  have h1 := Int.mul_ediv_add_emod (-n) d
  have h2 := Int.emod_nonneg (-n) (show d ≠ 0 by omega)
  have h3 := Int.emod_lt_of_pos (-n) hd
  rw [Int.neg_mul, Int.mul_comm]
  omega

theorem mul_le_abs {a b B : Int} (hb : 1 ≤ b) (h : -B ≤ a * b ∧ a * b ≤ B) (hB : 0 ≤ B) : -B ≤ a ∧ a ≤ B := by
  rcases Int.le_total 0 a with ha | ha
  · have := Int.mul_le_mul_of_nonneg_left hb ha
    omega
  · have := Int.mul_le_mul_of_nonpos_left ha hb
    omega

end Go.Bl
namespace Go.Proofs.YtgcpegjggakemaaGreatDoor
open Go Go.RowKit Go.Bl

set_option maxHeartbeats 800000 in
theorem floor_any (n d : Int) (w : World) (hn : -4000000000000000000 ≤ n ∧ n ≤ 4000000000000000000) (hd : 1 ≤ d ∧ d ≤ 4000000000000000000) :
    Calls Tryz.prog 66 #[.int .i64 n, .int .i64 d] w fun e w' => e = .returned (.int .i64 (n / d)) ∧ w = w' := by
  have hb := tdiv_bd hd.1 hn
  have he := hide (floor_eq (n := n) hd.1)
  have hd0 : d ≠ 0 := by omega
  have hd1 : (d == 0) = false := by simp [hd0]
  have htb := tmod_bd n hd.1
  generalize hq : n.tdiv d = q at *
  generalize hr : n.tmod d = r at *
  generalize n / d = z at *
  by_cases h : r < 0
  · have he2 : Hid (z = q - 1) := by rw [Hid, he.out, if_pos h]
    go_enter Tryz.func66, Tryz.ntmps66
    go_wp2_with fail
    go_ret
    exact ⟨ret_int he2.out.symm, rfl⟩
  · have he2 : Hid (z = q) := by rw [Hid, he.out, if_neg h]
    have h' : 0 ≤ r := by omega
    clear h
    go_enter Tryz.func66, Tryz.ntmps66
    go_wp2_with fail
    go_ret
    exact ⟨ret_int he2.out.symm, rfl⟩

/-- a filler in memory: its fields in block f, its grid in g and b, its toggles in q -/
structure FilAt (w : World) (f g b q : Nat) (G : Grd) (od : List Int) : Prop where
  bx : Box w f 100 [.pointer (some ⟨g, 0, none⟩), .slice (some ⟨q, 0, none⟩) od.length od.length]
  gd : GridAt w g b G
  od : Own w 0 3 (some ⟨q, 0, none⟩) od.length od
section
variable {w w' : World} {f g b q : Nat} {G : Grd} {od : List Int}

theorem FilAt.gr {r : Option Nat} (h : FilAt w f g b q G od) (hg : w.grownBy w' r) (h1 : r ≠ some f) (h2 : r ≠ some g) (h3 : r ≠ some b) (h4 : r ≠ some q) : FilAt w' f g b q G od :=
  ⟨h.bx.gr hg h1, h.gd.gr hg h2 h3, h.od.ne hg (fun x e k => by cases e; exact h4 k)⟩

theorem FilAt.pure (h : FilAt w f g b q G od) (hg : w.grownBy w' none) : FilAt w' f g b q G od := h.gr hg (by simp) (by simp) (by simp) (by simp)

theorem FilAt.ne (h : FilAt w f g b q G od) : b ≠ f ∧ q ≠ f ∧ q ≠ g ∧ q ≠ b ∧ b ≠ g := by
  refine ⟨fun e => h.bx.ne_own h.gd.on (by decide) (by rw [e]; rfl), fun e => h.bx.ne_own h.od (by decide) (by rw [e]; rfl), fun e => h.gd.bx.ne_own h.od (by decide) (by rw [e]; rfl), fun e => h.gd.on.ne_own h.od (by decide) (x := b) rfl (by rw [e]; rfl), h.gd.ne⟩

theorem FilAt.cells (h : FilAt w f g b q G od) : w.cell? ⟨f, 0, none⟩ = some (.pointer (some ⟨g, 0, none⟩)) ∧ w.cell? ⟨f, 1, none⟩ = some (.slice (some ⟨q, 0, none⟩) od.length od.length) ∧ w.cell? ⟨g, 0, none⟩ = some (.int .i64 G.step) ∧ w.cell? ⟨g, 1, none⟩ = some (.int .i64 G.x) ∧ w.cell? ⟨g, 3, none⟩ = some (.int .i64 (G.wide : Int)) :=
  ⟨(h.bx.c 0 rfl).1, (h.bx.c 1 rfl).1, h.gd.cells.1, h.gd.cells.2.1, h.gd.cells.2.2.2.1⟩
end

/-- a filler at work: the cells of its grid are the old ones and those of a set -/
def RowI (w0 : World) (f g b q : Nat) (O : Grd) (T : Int → Int → Bool) (od : List Int) (w : World) : Prop :=
  ∃ O' : Grd, FilAt w f g b q O' od ∧ O'.same O ∧ (∀ x y, O'.at x y = (O.at x y || T x y)) ∧ Gr2 w0 w b q
section
variable {w0 w w' : World} {f g b q : Nat} {O : Grd} {T U : Int → Int → Bool} {od : List Int}

theorem RowI.pure (h : RowI w0 f g b q O T od w) (hg : w.grownBy w' none) : RowI w0 f g b q O T od w' :=
  let ⟨O', h1, h2, h3, h4⟩ := h
  ⟨O', h1.pure hg, h2, h3, h4.pure hg⟩

theorem RowI.congr (h : RowI w0 f g b q O T od w) (hT : ∀ x y, T x y = U x y) : RowI w0 f g b q O U od w :=
  let ⟨O', h1, h2, h3, h4⟩ := h
  ⟨O', h1, h2, fun x y => by rw [h3, hT], h4⟩

theorem RowI.start (h : FilAt w f g b q O od) : RowI w f g b q O (fun _ _ => false) od w := ⟨O, h, Grd.same.refl O, fun x y => by simp, Gr2.refl _ _ _⟩

theorem RowI.ne (h : RowI w0 f g b q O T od w) : b ≠ f ∧ q ≠ f ∧ q ≠ g ∧ q ≠ b ∧ b ≠ g := let ⟨_, h1, _⟩ := h; h1.ne

theorem RowI.gr2 (h : RowI w0 f g b q O T od w) : Gr2 w0 w b q := let ⟨_, _, _, _, h4⟩ := h; h4

theorem RowI.lt (h : RowI w0 f g b q O T od w) : f < w.heap.size ∧ g < w.heap.size ∧ b < w.heap.size ∧ q < w.heap.size := let ⟨_, h1, _⟩ := h; ⟨h1.bx.lt, h1.gd.lt.1, h1.gd.lt.2, (h1.od.blk_lt rfl).2⟩

theorem RowI.cells (h : RowI w0 f g b q O T od w) : w.cell? ⟨f, 0, none⟩ = some (.pointer (some ⟨g, 0, none⟩)) ∧ w.cell? ⟨f, 1, none⟩ = some (.slice (some ⟨q, 0, none⟩) od.length od.length) ∧ w.cell? ⟨g, 0, none⟩ = some (.int .i64 O.step) ∧ w.cell? ⟨g, 1, none⟩ = some (.int .i64 O.x) ∧ w.cell? ⟨g, 3, none⟩ = some (.int .i64 (O.wide : Int)) := by
  obtain ⟨O', h1, ⟨e1, e2, e3, e4, e5⟩, h3, h4⟩ := h
  rw [← e1, ← e2, ← e4]
  exact h1.cells

theorem RowI.set_ {O1 : Grd} (h : RowI w0 f g b q O T od w) : ∃ O' : Grd, GridAt w g b O' ∧ O'.same O ∧ ∀ wx, w.grownBy wx (some b) → ∀ O2 : Grd, GridAt wx g b O2 → FilAt wx f g b q O2 od := by
  obtain ⟨O', h1, h2, h3, h4⟩ := h
  obtain ⟨n1, n2, n3, n4, n5⟩ := h1.ne
  exact ⟨O', h1.gd, h2, fun wx hg O2 hO2 => ⟨h1.bx.gr hg (by intro e; injection e with e; exact n1 e), hO2, h1.od.ne hg (fun x e k => by cases e; injection k with k; exact n4 k.symm)⟩⟩
end

set_option maxHeartbeats 400000 in
theorem rowSet_any (w0 : World) (f g b q : Nat) (O : Grd) (T U : Int → Int → Bool) (od : List Int) (x y : Int) (w : World) (h : RowI w0 f g b q O T od w) (hi : O.In x y) (hU : ∀ u v, U u v = (T u v || decide (u = x ∧ v = y))) :
    Calls Tryz.prog 94 #[.pointer (some ⟨g, 0, none⟩), .int .i64 x, .int .i64 y] w fun e w' => e = .returned (.tuple #[]) ∧ RowI w0 f g b q O U od w' := by
  obtain ⟨O', h1, h2, h3, h4⟩ := h
  obtain ⟨n1, n2, n3, n4, n5⟩ := h1.ne
  have hi' : O'.In x y := (h2.in_ x y).2 hi
  refine (set_any g b O' x y w h1.gd hi').mono ?_
  rintro e w' ⟨rfl, k1, k2⟩
  exact ⟨rfl, O'.put x y, ⟨h1.bx.gr k2 (by intro e; injection e with e; exact n1 e), k1, h1.od.ne k2 (fun x e k => by cases e; injection k with k; exact n4 k.symm)⟩, h2.put x y, fun u v => by rw [h1.gd.ok.put_at hi', h3, hU, Bool.or_assoc], h4.sb k2⟩

set_option maxHeartbeats 4000000 in
set_option maxRecDepth 100000 in
theorem column_any (w0 : World) (f g b q : Nat) (O : Grd) (T : Int → Int → Bool) (od : List Int) (num den : Int) (w : World) (h : RowI w0 f g b q O T od w) (hO : O.Ok)
    (hn : -1000000000000 ≤ num ∧ num ≤ 1000000000000) (hd : 1 ≤ den ∧ den ≤ 1000000) :
    Calls Tryz.prog 139 #[.pointer (some ⟨f, 0, none⟩), .int .i64 num, .int .i64 den] w fun e w' => e = .returned (.tuple #[.int .i64 (colC O.x O.step O.wide num den), .bool (colJ O.x O.step O.wide num den)]) ∧ w.grownBy w' none := by
  have hc := hide (fun W (hg : w.grownBy W none) => (h.pure hg).cells)
  clear h
  have h1 := hO.x
  have h2 := hO.s
  have h3 := hO.w
  clear hO
  obtain ⟨X, hX⟩ : ∃ X, X = O.x := ⟨_, rfl⟩
  obtain ⟨S, hS⟩ : ∃ S, S = O.step := ⟨_, rfl⟩
  obtain ⟨W, hW⟩ : ∃ W, W = O.wide := ⟨_, rfl⟩
  rw [← hX] at h1
  rw [← hS] at h2
  rw [← hW] at h3
  rw [← hX, ← hS, ← hW] at hc ⊢
  clear hX hS hW
  obtain ⟨p, hp⟩ : ∃ p, p = X * S := ⟨_, rfl⟩
  obtain ⟨r, hr⟩ : ∃ r, r = S.tdiv 2 := ⟨_, rfl⟩
  have hr' : r = S / 2 := by rw [hr]; exact Int.tdiv_eq_ediv_of_nonneg (by omega)
  have hpb : -100000000000 ≤ p ∧ p ≤ 100000000000 := by rw [hp]; exact mulm_bd (m := 10000000) (n := 10000) (by omega) (by omega) (by omega)
  have hrb : 0 ≤ r ∧ r ≤ 10000 := by omega
  obtain ⟨t, ht⟩ : ∃ t, t = (p + r) * den := ⟨_, rfl⟩
  have htb : -200000000000000000 ≤ t ∧ t ≤ 200000000000000000 := by rw [ht]; exact mulm_bd (m := 200000000000) (n := 1000000) (by omega) (by omega) (by omega)
  obtain ⟨m, hm⟩ : ∃ m, m = num - t := ⟨_, rfl⟩
  have hmb : -300000000000000000 ≤ m ∧ m ≤ 300000000000000000 := by omega
  obtain ⟨D, hD⟩ : ∃ D, D = den * S := ⟨_, rfl⟩
  have hDb : 1 ≤ D ∧ D ≤ 10000000000 := by
    rw [hD]
    have k1 := Int.mul_le_mul_of_nonneg_left h2.1 (show 0 ≤ den by omega)
    have k2 := (mulm_bd (m := 1000000) (n := 10000) (a := den) (b := S) (by omega) (by omega) (by omega)).2
    omega
  obtain ⟨k, hk⟩ : ∃ k, k = ceilQ m D := ⟨_, rfl⟩
  have hN : colN X S num den = m := by unfold colN; rw [hm, ht, hp, hr']
  have hCe : Hid (colC X S W num den = max 0 (min k W)) := by rw [Hid, colC, hN, ← hD, ← hk]
  have hJe : Hid (colJ X S W num den = (decide (k * den * S = m) && decide (0 ≤ k) && decide (k < (W : Int)))) := by rw [Hid, colJ, hN, ← hD, ← hk]
  have hcb := ceil_bd (n := m) (d := D) (by omega)
  rw [← hk] at hcb
  have hkD : -400000000000000000 ≤ k * D ∧ k * D ≤ 400000000000000000 := by omega
  have hkb := mul_le_abs hDb.1 hkD (by omega)
  obtain ⟨kd, hkd⟩ : ∃ kd, kd = k * den := ⟨_, rfl⟩
  obtain ⟨ks, hks⟩ : ∃ ks, ks = kd * S := ⟨_, rfl⟩
  have hks' : ks = k * D := by rw [hks, hkd, hD, Int.mul_assoc]
  have hksb : -400000000000000000 ≤ ks ∧ ks ≤ 400000000000000000 := by omega
  have hkdb := mul_le_abs (a := kd) (b := S) (by omega) (by rw [← hks]; exact hksb) (by omega)
  rw [← hkd, ← hks] at hJe
  have hfl : Hid (∀ W, Calls Tryz.prog 66 #[.int .i64 (-m), .int .i64 D] W fun e w' => e = .returned (.int .i64 (-k)) ∧ W = w') := by
    intro W
    have := floor_any (-m) D W (by omega) (by omega)
    rw [show -m / D = -k by rw [hk, ceilQ]; omega] at this
    exact this
  replace hp : X * S = p := hp.symm
  replace ht : (p + r) * den = t := ht.symm
  replace hm : num - t = m := hm.symm
  replace hr : S.tdiv 2 = r := hr.symm
  replace hD : den * S = D := hD.symm
  replace hkd : k * den = kd := hkd.symm
  replace hks : kd * S = ks := hks.symm
  have hkn : - -k = k := by omega
  clear hN hcb hkD hks' hr' hk
  generalize colC X S W num den = C at *
  generalize colJ X S W num den = J at *
  obtain ⟨c0, -, c2, c3, c4⟩ := hc.out w (World.grownBy.refl _ _)
  go_enter Tryz.func139, Tryz.ntmps139
  go_upto_region 1 with fail
  go_quiet (fail)
  go_upto_region 2 with fail
  have hg0 : w.grownBy (w.drewN nq) none := gr_drewN (World.grownBy.refl _ _) nq
  generalize w.drewN nq = w0' at *
  clear c0 c2 c3 c4
  obtain ⟨c0, -, c2, c3, c4⟩ := hc.out w0' hg0
  go_wp2_with fail
  refine (hfl.out w0').mono ?_
  rintro e w1 ⟨rfl, rfl⟩
  go_upto_region 3 with fail
  clear hc hfl hp ht hm hr hD hkn
  have hgQ : ∀ nz, w.grownBy (w0'.drewN nz) none := fun nz => gr_drewN hg0 nz
  rcases q1 : (ks == m) with _ | _
  · have hJ2 : Hid (J = false) := by
      have h : ¬ ks = m := by simpa using q1
      rw [Hid, hJe.out, decide_eq_false h]; rfl
    clear hJe
    go_quiet (fail)
    go_wp2_with fail
    rw [← hCe.out, ← hJ2.out]
    go_ret2
    exact ⟨rfl, by repeat (first | exact hg0 | refine gr_drewN ?_ _)⟩
  rcases q2 : decide (0 ≤ k) with _ | _
  · have hJ2 : Hid (J = false) := by rw [Hid, hJe.out, q2, Bool.and_false, Bool.false_and]
    clear hJe
    go_quiet (fail)
    go_wp2_with fail
    rw [← hCe.out, ← hJ2.out]
    go_ret2
    exact ⟨rfl, by repeat (first | exact hg0 | refine gr_drewN ?_ _)⟩
  rcases q3 : decide (k < (W : Int)) with _ | _
  · have hJ2 : Hid (J = false) := by rw [Hid, hJe.out, q3, Bool.and_false]
    clear hJe
    go_quiet (fail)
    go_wp2_with fail
    rw [← hCe.out, ← hJ2.out]
    go_ret2
    exact ⟨rfl, by repeat (first | exact hg0 | refine gr_drewN ?_ _)⟩
  · have hJ2 : Hid (J = true) := by
      have h : ks = m := by simpa using q1
      rw [Hid, hJe.out, decide_eq_true h, q2, q3]; rfl
    clear hJe
    go_quiet (fail)
    go_wp2_with fail
    rw [← hCe.out, ← hJ2.out]
    go_ret2
    exact ⟨rfl, by repeat (first | exact hg0 | refine gr_drewN ?_ _)⟩

end Go.Proofs.YtgcpegjggakemaaGreatDoor

namespace Go.Bl
open Go
/-- the columns of a grid -/
def inCol (O : Grd) (u : Int) : Bool := decide (O.x ≤ u) && decide (u < O.x + O.wide)
/-- what a mark covers -/
def markT (O : Grd) (y a1 a2 : Int) (u v : Int) : Bool := decide (v = y) && inCol O u && (decide (a1 ≤ cenI O.step u) && decide (cenI O.step u ≤ a2))
/-- the columns from p on, before q -/
def spanT (O : Grd) (y p q : Int) (u v : Int) : Bool := decide (v = y) && (decide (O.x + p ≤ u) && decide (u < O.x + q))

theorem inCol_iff {O : Grd} {u : Int} : inCol O u = true ↔ O.x ≤ u ∧ u < O.x + O.wide := by simp [inCol]

theorem span_mark {O : Grd} (hs : 0 < O.step) {y a1 a2 k : Int} (h1 : colL O.x O.step O.wide a2 1 ≤ k) (h2 : colC O.x O.step O.wide a1 1 ≤ k) (h3 : k ≤ colL O.x O.step O.wide a2 1 ∨ k = colC O.x O.step O.wide a1 1) (u v : Int) :
    spanT O y (colC O.x O.step O.wide a1 1) k u v = markT O y a1 a2 u v := by
  have hW : (0 : Int) ≤ O.wide := by omega
  have b1 := colC_bd (X := O.x) (step := O.step) (num := a1) (den := 1) hW
  have b2 := colC_bd (X := O.x) (step := O.step) (num := a2) (den := 1) hW
  have b3 : colL O.x O.step O.wide a2 1 ≤ O.wide := by
    unfold colL
    split
    · rename_i h; have := colJ_lt h; omega
    · omega
  unfold spanT markT
  rw [Bool.and_assoc, Bool.eq_iff_iff]
  simp only [Bool.and_eq_true, decide_eq_true_eq, inCol_iff]
  have hj : ∀ hu : O.x ≤ u ∧ u < O.x + O.wide, (O.x + colC O.x O.step O.wide a1 1 ≤ u ↔ a1 ≤ cenI O.step u) ∧ (u < O.x + colL O.x O.step O.wide a2 1 ↔ cenI O.step u ≤ a2) := fun hu => by
    have e1 := col_gt (X := O.x) (num := a1) (W := O.wide) (j := u - O.x) hs (show (0 : Int) < 1 by omega) (by omega) (by omega)
    have e2 := col_le (X := O.x) (num := a2) (W := O.wide) (j := u - O.x) hs (show (0 : Int) < 1 by omega) (by omega) (by omega)
    have e3 : midI O.x O.step (u - O.x) * 1 = cenI O.step u := by rw [Int.mul_one, mid_cen, show O.x + (u - O.x) = u by omega]
    rw [e3] at e1 e2
    constructor
    · constructor <;> intro h <;> omega
    · constructor <;> intro h <;> omega
  constructor
  · rintro ⟨rfl, h⟩
    have hu : O.x ≤ u ∧ u < O.x + O.wide := by omega
    obtain ⟨j1, j2⟩ := hj hu
    exact ⟨rfl, hu, j1.1 h.1, j2.1 (by omega)⟩
  · rintro ⟨rfl, hu, h⟩
    obtain ⟨j1, j2⟩ := hj hu
    have := j2.2 h.2
    exact ⟨rfl, j1.2 h.1, by omega⟩

theorem span_zero (O : Grd) (y p u v : Int) : spanT O y p p u v = false := by
  unfold spanT
  have : ¬ (O.x + p ≤ u ∧ u < O.x + p) := by omega
  rcases h1 : decide (O.x + p ≤ u) with _ | _
  · simp
  · rcases h2 : decide (u < O.x + p) with _ | _
    · simp
    · simp at h1 h2; omega

theorem span_next {O : Grd} {y p q : Int} (h : p ≤ q) (u v : Int) : spanT O y p (q + 1) u v = (spanT O y p q u v || decide (u = O.x + q ∧ v = y)) := by
  unfold spanT
  rw [Bool.eq_iff_iff]
  simp only [Bool.and_eq_true, Bool.or_eq_true, decide_eq_true_eq]
  omega

end Go.Bl
namespace Go.Proofs.YtgcpegjggakemaaGreatDoor
open Go Go.RowKit Go.Bl

set_option maxHeartbeats 4000000 in
set_option maxRecDepth 100000 in
theorem mark_any (w0 : World) (f g b q : Nat) (O : Grd) (T : Int → Int → Bool) (od : List Int) (y a1 a2 : Int) (w : World) (h : RowI w0 f g b q O T od w) (hO : O.Ok)
    (hy : O.y ≤ y ∧ y < O.y + O.high) (h1 : -1000000 ≤ a1 ∧ a1 ≤ 1000000) (h2 : -1000000 ≤ a2 ∧ a2 ≤ 1000000) :
    Calls Tryz.prog 138 #[.pointer (some ⟨f, 0, none⟩), .int .i64 y, .int .i64 a1, .int .i64 a2] w fun e w' => e = .returned (.tuple #[]) ∧ RowI w0 f g b q O (fun u v => T u v || markT O y a1 a2 u v) od w' := by
  have hc1 := hide (column_any w0 f g b q O T od a1 1 w h hO (by omega) (by omega))
  have hc2 := hide (fun W (hg : w.grownBy W none) => column_any w0 f g b q O T od a2 1 W (h.pure hg) hO (by omega) (by omega))
  have hs := hO.s
  have hx := hO.x
  have hw := hO.w
  obtain ⟨p, hp⟩ : ∃ p, p = colC O.x O.step O.wide a1 1 := ⟨_, rfl⟩
  obtain ⟨l, hl⟩ : ∃ l, l = colC O.x O.step O.wide a2 1 := ⟨_, rfl⟩
  obtain ⟨J, hJ⟩ : ∃ J, J = colJ O.x O.step O.wide a2 1 := ⟨_, rfl⟩
  have hpb := colC_bd (X := O.x) (step := O.step) (num := a1) (den := 1) (W := (O.wide : Int)) (by omega)
  have hlb := colC_bd (X := O.x) (step := O.step) (num := a2) (den := 1) (W := (O.wide : Int)) (by omega)
  have hm : Hid (∀ k, (if J then l + 1 else l) ≤ k → p ≤ k → (k ≤ (if J then l + 1 else l) ∨ k = p) → ∀ u v, spanT O y p k u v = markT O y a1 a2 u v) := fun k k1 k2 k3 u v => by
    have e : colL O.x O.step O.wide a2 1 = if J then l + 1 else l := by unfold colL; rw [← hJ, ← hl]
    have := span_mark (y := y) (a1 := a1) (a2 := a2) (k := k) (show 0 < O.step by omega) (by rw [e]; exact k1) (by rw [← hp]; exact k2) (by rw [e, ← hp]; exact k3) u v
    rwa [← hp] at this
  have hlJ : J = true → l < O.wide := fun e => by rw [hl]; exact colJ_lt (by rw [← hJ]; exact e)
  rw [← hp] at hpb
  rw [← hl] at hlb
  rw [← hp] at hc1
  rw [← hl, ← hJ] at hc2
  clear hp hl hJ
  replace h := hide h
  replace hO := hide hO
  go_enter Tryz.func138, Tryz.ntmps138
  go_wp2_with fail
  refine hc1.out.mono ?_
  rintro e w1 ⟨rfl, hg1⟩
  go_wp2_with fail
  refine (hc2.out w1 hg1).mono ?_
  rintro e w2 ⟨rfl, hg2⟩
  have hR := h.out.pure (hg1.t hg2)
  clear hc1 hc2 h hg1 hg2
  obtain ⟨r, hr⟩ : ∃ r, r = if J then l + 1 else l := ⟨_, rfl⟩
  rw [← hr] at hm
  have hrW : 0 ≤ r ∧ r ≤ O.wide := by
    rw [hr]
    cases J
    · simp; omega
    · have := hlJ rfl; simp; omega
  replace hr := hide hr
  cases J
  all_goals
    have hrv := hr.out
    simp only [if_true, if_false, Bool.false_eq_true] at hrv
    clear hr hlJ
    go_wp2_with fail
    rw [← hrv]
    clear hrv
    go_loopw [12] (fun s wr => ∃ k : Int, p ≤ k ∧ (k ≤ r ∨ k = p) ∧ s = .int .i64 k ∧ RowI w0 f g b q O (fun u v => T u v || spanT O y p k u v) od wr) (fun s _ => (r - intOf s).toNat)
    case atStart => exact ⟨p, by omega, by omega, rfl, hR.congr fun u v => by rw [span_zero]; simp⟩
    case round =>
      clear hR
      obtain ⟨k, hk, hkr, rfl, hR⟩ := hrel
      by_cases hlt : k < r
      · have hcl := hide (fun W (hg : wr.grownBy W none) => (hR.pure hg).cells)
        have hset := hide (fun W (hg : wr.grownBy W none) => rowSet_any w0 f g b q O _ (fun u v => T u v || spanT O y p (k + 1) u v) od (O.x + k) y W (hR.pure hg) (by unfold Grd.In; omega) (fun u v => by rw [span_next hk, Bool.or_assoc]))
        clear hR
        go_upto_region 7 with fail
        refine wp_region_tree (fun wx => wr.grownBy wx none) [2, 2, 2, 1, 2, 2, 2, 1, 2, 2, 1, 2, 2, 2, 0] (.bl 0 (.bl 1 (.bl 2 (.bl 3 (.bl 4 (.bl 5 (.bl 6 (.bl 7 (.bl 8 (.bl 9 (.bl 10 (.bl 11 (.bl 12 (.bl 13 (.ef 14 .done))))))))))))))) (by kernel_rfl) (by kernel_rfl) (gr_drew (World.grownBy.refl _ _)) ?_
        obtain ⟨w3, hw3⟩ : ∃ x, x = (wr).drew := ⟨_, rfl⟩
        rw [← hw3]
        have hgw3 : (wr).grownBy w3 none := by rw [hw3]; exact gr_drew (World.grownBy.refl _ _)
        clear hw3
        refine tree_p rfl rfl rfl rfl _ rfl (by simp) (fun K hK => ?_)
        apply Exists.intro
        refine ⟨fun wq K' hK' => ?_, ?_⟩
        · go_wp2_with fail
          exact hK'
        go_simp
        refine hK _ ?_
        clear hK K
        refine tree_n rfl rfl _ rfl _ rfl ?_
        try go_simp
        refine tree_p rfl rfl rfl rfl _ rfl (by simp) (fun K hK => ?_)
        apply Exists.intro
        refine ⟨fun wq K' hK' => ?_, ?_⟩
        · go_wp2_with fail
          exact hK'
        go_simp
        refine hK _ ?_
        clear hK K
        refine tree_b rfl rfl rfl rfl _ rfl (by simp) (fun K hK => ?_)
        apply Exists.intro
        refine ⟨fun wq hq K' hK' => ?_, ?_⟩
        · obtain ⟨c0, -, -, c3, -⟩ := hcl.out wq hq
          go_wp2_with fail
          exact hK'
        go_simp
        refine hK _ ?_
        clear hK K
        refine tree_p rfl rfl rfl rfl _ rfl (by simp) (fun K hK => ?_)
        apply Exists.intro
        refine ⟨fun wq K' hK' => ?_, ?_⟩
        · go_wp2_with fail
          exact hK'
        go_simp
        refine hK _ ?_
        clear hK K
        refine tree_n rfl rfl _ rfl _ rfl ?_
        try go_simp
        refine tree_p rfl rfl rfl rfl _ rfl (by simp) (fun K hK => ?_)
        apply Exists.intro
        refine ⟨fun wq K' hK' => ?_, ?_⟩
        · go_wp2_with fail
          exact hK'
        go_simp
        refine hK _ ?_
        clear hK K
        refine tree_b rfl rfl rfl rfl _ rfl (by simp) (fun K hK => ?_)
        apply Exists.intro
        refine ⟨fun wq hq K' hK' => ?_, ?_⟩
        · obtain ⟨c0, -, -, c3, -⟩ := hcl.out wq hq
          go_wp2_with fail
          exact hK'
        go_simp
        refine hK _ ?_
        clear hK K
        refine tree_n rfl rfl _ rfl _ rfl ?_
        try go_simp
        refine tree_p rfl rfl rfl rfl _ rfl (by simp) (fun K hK => ?_)
        apply Exists.intro
        refine ⟨fun wq K' hK' => ?_, ?_⟩
        · go_wp2_with fail
          exact hK'
        go_simp
        refine hK _ ?_
        clear hK K
        refine tree_b rfl rfl rfl rfl _ rfl (by simp) (fun K hK => ?_)
        apply Exists.intro
        refine ⟨fun wq hq K' hK' => ?_, ?_⟩
        · obtain ⟨c0, -, -, c3, -⟩ := hcl.out wq hq
          go_wp2_with fail
          exact hK'
        go_simp
        refine hK _ ?_
        clear hK K
        refine tree_p rfl rfl rfl rfl _ rfl (by simp) (fun K hK => ?_)
        apply Exists.intro
        refine ⟨fun wq K' hK' => ?_, ?_⟩
        · go_wp2_with fail
          exact hK'
        go_simp
        refine hK _ ?_
        clear hK K
        refine tree_p rfl rfl rfl rfl _ rfl (by simp) (fun K hK => ?_)
        apply Exists.intro
        refine ⟨fun wq K' hK' => ?_, ?_⟩
        · go_wp2_with fail
          exact hK'
        go_simp
        refine hK _ ?_
        clear hK K
        refine tree_p rfl rfl rfl rfl _ rfl (by simp) (fun K hK => ?_)
        apply Exists.intro
        refine ⟨fun wq K' hK' => ?_, ?_⟩
        · go_wp2_with fail
          exact hK'
        go_simp
        refine hK _ ?_
        clear hK K
        refine tree_e0 (by kernel_rfl) rfl rfl (fun K hK => ?_)
        go_wp2_with fail
        refine (hset.out w3 (gr_trans hgw3 (World.grownBy.refl _ _))).mono ?_
        rintro e w4 ⟨rfl, hR4⟩
        replace hR4 := hide hR4
        go_wp2_with fail
        try go_simp
        refine hK _ _ trivial ?_
        clear hK K
        refine tree_done ?_
        go_wp2_with fail
        (go_roundw; (case rel => exact ⟨k + 1, by omega, by omega, by go_num, hR4.out⟩); (case measure => simp [intOf]; omega))
      · have hfin := hide (hR.congr fun u v => by rw [hm.out k (by omega) hk hkr u v])
        go_wp2_with fail
        go_end0
        exact ⟨rfl, hfin.out⟩

end Go.Proofs.YtgcpegjggakemaaGreatDoor

namespace Go.Bl
open Go
variable {O : Grd} {y c : Int} {s : Sid} {L : List Sid}

def mkT (O : Grd) (y c : Int) (s : Sid) (u v : Int) : Bool := decide (v = y) && inCol O u && markS s c (cenI O.step u)

def tcT (O : Grd) (y c : Int) (s : Sid) (u v : Int) : Bool := decide (v = y) && inCol O u && touchS s c (cenI O.step u)

def hitT (O : Grd) (y c : Int) (L : List Sid) (u v : Int) : Bool := decide (v = y) && inCol O u && L.any fun s => hitS s c (cenI O.step u)

theorem mark_both (ha : s.a.y = c) (hb : s.b.y = c) (u v : Int) : markT O y (min s.a.x s.b.x) (max s.a.x s.b.x) u v = mkT O y c s u v := by
  unfold markT mkT markS
  rw [if_pos hb, decide_eq_true ha, Bool.true_and]

theorem mark_one (ha : s.a.y = c) (hb : ¬ s.b.y = c) (u v : Int) : markT O y s.a.x s.a.x u v = mkT O y c s u v := by
  unfold markT mkT markS
  rw [if_neg hb, decide_eq_true ha, Bool.true_and]
  congr 1
  rw [Bool.eq_iff_iff]
  simp only [Bool.and_eq_true, decide_eq_true_eq]
  omega

theorem mark_no (ha : ¬ s.a.y = c) (u v : Int) : mkT O y c s u v = false := by
  unfold mkT markS
  rw [decide_eq_false ha, Bool.false_and, Bool.and_false]

theorem touch_na (ha : acrS s c = false) (u v : Int) : tcT O y c s u v = false := by
  unfold tcT touchS
  rw [ha, Bool.false_and, Bool.and_false]

theorem col_just' (hs : 0 < O.step) (ha : acrS s c = true) {u : Int} (hu : inCol O u = true) : (colJ O.x O.step O.wide (numS s c) (denS s) = true ∧ colC O.x O.step O.wide (numS s c) (denS s) = u - O.x) ↔ numS s c = cenI O.step u * denS s := by
  rw [inCol_iff] at hu
  have := col_just (X := O.x) (num := numS s c) (W := O.wide) (j := u - O.x) hs (den_pos ha) (by omega) (by omega)
  rw [mid_cen, show O.x + (u - O.x) = u by omega] at this
  rw [this]
  exact eq_comm

theorem touch_no (hs : 0 < O.step) (ha : acrS s c = true) (hJ : colJ O.x O.step O.wide (numS s c) (denS s) = false) (u v : Int) : tcT O y c s u v = false := by
  unfold tcT touchS
  rcases hu : inCol O u with _ | _
  · rw [Bool.and_false, Bool.false_and]
  · have := col_just' hs ha hu
    rw [hJ] at this
    have h2 : ¬ numS s c = cenI O.step u * denS s := by rw [← this]; simp
    rw [decide_eq_false h2, Bool.and_false, Bool.and_false]

theorem touch_set (hs : 0 < O.step) (ha : acrS s c = true) (hJ : colJ O.x O.step O.wide (numS s c) (denS s) = true) (u v : Int) : decide (u = O.x + colC O.x O.step O.wide (numS s c) (denS s) ∧ v = y) = tcT O y c s u v := by
  have hb := colC_bd (X := O.x) (step := O.step) (num := numS s c) (den := denS s) (W := (O.wide : Int)) (by omega)
  have hl := colJ_lt hJ
  unfold tcT touchS
  rcases hu : inCol O u with _ | _
  · rw [Bool.and_false, Bool.false_and]
    have hn : ¬ inCol O u = true := by rw [hu]; simp
    rw [inCol_iff] at hn
    rw [decide_eq_false_iff_not]
    omega
  · have := col_just' hs ha hu
    rw [hJ, ha] at *
    rw [Bool.eq_iff_iff]
    simp only [Bool.and_eq_true, decide_eq_true_eq, true_and, and_true]
    rw [← this]
    simp only [true_and]
    omega

theorem hit_nil (u v : Int) : hitT O y c [] u v = false := by simp [hitT]

theorem hit_next (u v : Int) : hitT O y c (L ++ [s]) u v = (hitT O y c L u v || (mkT O y c s u v || tcT O y c s u v)) := by
  unfold hitT mkT tcT
  rw [List.any_append]
  simp only [List.any_cons, List.any_nil, Bool.or_false, hitS]
  rw [Bool.and_or_distrib_left, Bool.and_or_distrib_left]
/-- the toggles of a row -/
def togL (O : Grd) (c : Int) (L : List Sid) : List Int := (List.range (O.wide + 1)).map fun m => (togN O.x O.step O.wide c L m : Int)

theorem togL_len : (togL O c L).length = O.wide + 1 := by simp [togL]

theorem togL_nil : togL O c [] = List.replicate (O.wide + 1) 0 := by
  refine List.ext_getElem (by simp [togL]) fun k h1 h2 => ?_
  simp [togL, togN_nil]

theorem togL_at {m : Nat} (h : m < (togL O c L).length) : (togL O c L)[m] = (togN O.x O.step O.wide c L m : Int) := by simp [togL]

theorem togL_na (ha : acrS s c = false) : togL O c (L ++ [s]) = togL O c L := by
  refine List.ext_getElem (by simp [togL]) fun k h1 h2 => ?_
  rw [togL_at, togL_at, togN_snoc, ha]
  simp

theorem togL_set (ha : acrS s c = true) {m : Nat} (hm : (m : Int) = colC O.x O.step O.wide (numS s c) (denS s)) (hl : m < O.wide + 1) : togL O c (L ++ [s]) = (togL O c L).set m ((togN O.x O.step O.wide c L m : Int) + 1) := by
  refine List.ext_getElem (by simp [togL]) fun k h1 h2 => ?_
  rw [List.getElem_set, togL_at, togN_snoc, ha]
  by_cases e : m = k
  · subst e
    rw [if_pos rfl]
    simp [hm]
  · rw [if_neg e, togL_at]
    have : ¬ colC O.x O.step O.wide (numS s c) (denS s) = (k : Int) := by omega
    simp [this]

def rowT (O : Grd) (y : Int) (L : List Sid) (u v : Int) : Bool :=
  decide (v = y) && inCol O u && (L.any (fun s => hitS s (cenI O.step y) (cenI O.step u)) || parL (fun s => oddS s (cenI O.step y) (cenI O.step u)) L)
/-- the last n columns, as far as they are inside -/
def oddT (O : Grd) (y c : Int) (L : List Sid) (n : Nat) (u v : Int) : Bool := decide (v = y) && (decide (O.x + O.wide - n ≤ u) && decide (u < O.x + O.wide)) && parL (fun s => oddS s c (cenI O.step u)) L

theorem odd_zero (u v : Int) : oddT O y c L 0 u v = false := by
  unfold oddT
  have : ¬ (O.x + O.wide - ((0 : Nat) : Int) ≤ u ∧ u < O.x + O.wide) := by omega
  rcases h1 : decide (O.x + O.wide - ((0 : Nat) : Int) ≤ u) with _ | _
  · simp
  · rcases h2 : decide (u < O.x + O.wide) with _ | _
    · simp
    · simp at h1 h2; omega

theorem odd_next {n : Nat} (hn : n < O.wide) (hs : 0 < O.step) (u v : Int) : oddT O y c L (n + 1) u v = (oddT O y c L n u v || (decide (sumT (togN O.x O.step O.wide c L) O.wide (n + 1) % 2 = 1) && decide (u = O.x + ((O.wide - 1 - n : Nat) : Int) ∧ v = y))) := by
  rw [tog_par hs hn, mid_cen]
  unfold oddT
  by_cases hu : u = O.x + ((O.wide - 1 - n : Nat) : Int)
  · rw [← hu]
    have h1 : O.x + O.wide - ((n + 1 : Nat) : Int) ≤ u := by omega
    have h2 : u < O.x + O.wide := by omega
    have h3 : ¬ O.x + O.wide - ((n : Nat) : Int) ≤ u := by omega
    rw [decide_eq_true h1, decide_eq_true h2, decide_eq_false h3]
    simp only [true_and, Bool.and_true, Bool.false_and, Bool.and_false, Bool.false_or]
    rw [Bool.and_comm]
  · have h4 : decide (O.x + O.wide - ((n + 1 : Nat) : Int) ≤ u) = decide (O.x + O.wide - ((n : Nat) : Int) ≤ u) ∨ u = O.x + O.wide - ((n + 1 : Nat) : Int) := by
      by_cases h : O.x + O.wide - ((n : Nat) : Int) ≤ u
      · left; rw [decide_eq_true h, decide_eq_true (by omega)]
      · by_cases h' : O.x + O.wide - ((n + 1 : Nat) : Int) ≤ u
        · right; omega
        · left; rw [decide_eq_false h, decide_eq_false h']
    rcases h4 with h4 | h4
    · rw [h4]
      have : ¬ (u = O.x + ((O.wide - 1 - n : Nat) : Int) ∧ v = y) := fun h => hu h.1
      rw [decide_eq_false this, Bool.and_false, Bool.or_false]
    · omega

theorem odd_all (u v : Int) : (hitT O y (cenI O.step y) L u v || oddT O y (cenI O.step y) L O.wide u v) = rowT O y L u v := by
  unfold hitT oddT rowT inCol
  have e : O.x + (O.wide : Int) - (O.wide : Int) = O.x := by omega
  rw [e, ← Bool.and_or_distrib_left]
open Go.RowKit in
theorem Own.setsI {lo : Nat} {e : TypeId} {g c : Nat} : ∀ (rs : List Int) {w : World} {l : List Int} {k : Nat}, Own w lo e (some ⟨g, 0, none⟩) c l → k + rs.length ≤ l.length →
    Own (w.setCells g k (rs.map (Value.int .i64))) lo e (some ⟨g, 0, none⟩) c (l.take k ++ rs ++ l.drop (k + rs.length)) ∧ w.grownBy (w.setCells g k (rs.map (Value.int .i64))) (some g)
  | [], w, l, k, h, _ => by
    simp only [List.map_nil, World.setCells, List.append_nil, List.length_nil, Nat.add_zero, List.take_append_drop]
    exact ⟨h, World.grownBy.refl _ _⟩
  | r :: rs, w, l, k, h, hk => by
    simp only [List.length_cons] at hk
    have hk2 : k < l.length := by omega
    have h1 := h.put hk2 (j := 0) (x := r) (u := .int .i64 r) (by decide) (by rintro c1 rfl; rfl)
    rw [show k * Enc.sz Int + 0 = k from by rw [show Enc.sz Int = 1 from rfl]; omega] at h1
    obtain ⟨h3, h4⟩ := Own.setsI rs h1 (k := k + 1) (by simp; omega)
    have e0 : (l.set k r).take (k + 1) = l.take k ++ [r] := by
      rw [List.take_succ_eq_append_getElem (by simpa using hk2)]
      simp [List.take_set_of_le]
    rw [e0, List.drop_set_of_lt (by omega)] at h3
    have e1 : l.take k ++ [r] ++ rs ++ l.drop (k + 1 + rs.length) = l.take k ++ r :: rs ++ l.drop (k + (r :: rs).length) := by
      simp only [List.append_assoc, List.nil_append, List.cons_append, List.length_cons]
      rw [show k + 1 + rs.length = k + (rs.length + 1) by omega]
    rw [e1] at h3
    exact ⟨h3, gr_trans (gr_set (World.grownBy.refl w (some g)) (p := ⟨g, k, none⟩) (.inl rfl) (.int .i64 r)) h4⟩

end Go.Bl
namespace Go.Proofs.YtgcpegjggakemaaGreatDoor
open Go Go.RowKit Go.Bl

theorem sl_sidF {w : World} {A : Option Addr} {l : List Sid} (h : Sl w 0 A l) (h0 : 0 < l.length) : ∃ g o, A = some ⟨g, o, none⟩ ∧ ∀ k (hk : k < l.length), (w.cell? ⟨g, o + k * 5, none⟩ = some (.int .i64 l[k].ring) ∧ w.cell? ⟨g, o + k * 5 + 1, none⟩ = some (.int .i64 l[k].a.x) ∧ w.cell? ⟨g, o + k * 5 + 2, none⟩ = some (.int .i64 l[k].a.y) ∧ w.cell? ⟨g, o + k * 5 + 3, none⟩ = some (.int .i64 l[k].b.x) ∧ w.cell? ⟨g, o + k * 5 + 4, none⟩ = some (.int .i64 l[k].b.y)) := by
  obtain ⟨g, o, -, e, -⟩ := h.at_ (by decide) h0
  refine ⟨g, o, e, fun k hk => ?_⟩
  obtain ⟨g', o', cs, e', _, _, hr, hc⟩ := h.at_ (by decide) hk
  rw [e] at e'
  injection e' with e'
  injection e' with e1 e2
  subst e1; subst e2
  have hr' : cs = [.int .i64 l[k].ring, .int .i64 l[k].a.x, .int .i64 l[k].a.y, .int .i64 l[k].b.x, .int .i64 l[k].b.y] := hr
  subst hr'
  exact ⟨hc 0 _ rfl, hc 1 _ rfl, hc 2 _ rfl, hc 3 _ rfl, hc 4 _ rfl⟩

theorem box5_c {w : World} {g : Nat} {t : TypeId} {a b c d e : Value} (h : Box w g t [a, b, c, d, e]) : Cell w g 0 a ∧ Cell w g 1 b ∧ Cell w g 2 c ∧ Cell w g 3 d ∧ Cell w g 4 e := ⟨h.c 0 rfl, h.c 1 rfl, h.c 2 rfl, h.c 3 rfl, h.c 4 rfl⟩

theorem zero_intF (w : World) : (zeroValue 3).run Tryz.prog w = .ok (.int .i64 0) w := by kernel_rfl
section
variable {w0 w w' : World} {f g b q : Nat} {O : Grd} {T U : Int → Int → Bool} {od : List Int}

theorem RowI.frm {x : Nat} (h : RowI w0 f g b q O T od w) (hg : w.grownBy w' (some x)) (hx : x ≠ f ∧ x ≠ g ∧ x ≠ b ∧ x ≠ q) (hn : w0.heap.size ≤ x) : RowI w0 f g b q O T od w' := by
  obtain ⟨O', h1, h2, h3, h4⟩ := h
  refine ⟨O', h1.gr hg (by intro e; injection e with e; exact hx.1 e) (by intro e; injection e with e; exact hx.2.1 e) (by intro e; injection e with e; exact hx.2.2.1 e) (by intro e; injection e with e; exact hx.2.2.2 e), h2, h3, h4.step hg (fun y e => by injection e with e; omega)⟩

theorem RowI.rebase (h : RowI w0 f g b q O T od w) : RowI w f g b q O T od w :=
  let ⟨O', h1, h2, h3, _⟩ := h
  ⟨O', h1, h2, h3, Gr2.refl _ _ _⟩

theorem RowI.comp {od' : List Int} (h : RowI w0 f g b q O T od w) (k : RowI w f g b q O U od' w') : RowI w0 f g b q O U od' w' :=
  let ⟨O', h1, h2, h3, h4⟩ := k
  ⟨O', h1, h2, h3, h.gr2.trans h4⟩

theorem RowI.odd (h : RowI w0 f g b q O T od w) {k : Nat} (hk : k < od.length) (z : Int) : RowI w0 f g b q O T (od.set k z) (w.setCell ⟨q, k, none⟩ (.int .i64 z)) := by
  obtain ⟨O', h1, h2, h3, h4⟩ := h
  obtain ⟨n1, n2, n3, n4, n5⟩ := h1.ne
  have hu := h1.od.put (i := k) (j := 0) (x := z) (u := .int .i64 z) hk (by decide) (by rintro c1 rfl; rfl)
  rw [show k * Enc.sz Int + 0 = k from by rw [show Enc.sz Int = 1 from rfl]; omega] at hu
  have hg := gr_set (World.grownBy.refl w (some q)) (p := ⟨q, k, none⟩) (.inl rfl) (.int .i64 z)
  have e : (od.set k z).length = od.length := by simp
  refine ⟨O', ⟨?_, h1.gd.gr hg (by intro e; injection e with e; exact n3 e) (by intro e; injection e with e; exact n4 e), ?_⟩, h2, h3, h4.sq hg⟩
  · rw [e]; exact h1.bx.gr hg (by intro e; injection e with e; exact n2 e)
  · rw [e]; exact hu

theorem RowI.toggle (h : RowI w0 f g b q O T od w) {k : Nat} (hk : k < od.length) : w.cell? ⟨q, k, none⟩ = some (.int .i64 od[k]) ∧ w.frozen? ⟨q, k, none⟩ = false := by
  obtain ⟨O', h1, h2, h3, h4⟩ := h
  obtain ⟨cc, hcr, hcc⟩ := h1.od.cell_at (by decide) hk
  have hcr' : cc = [.int .i64 od[k]] := hcr
  subst hcr'
  have := hcc 0 _ rfl
  rw [show Enc.sz Int = 1 from rfl, Nat.mul_one, Nat.add_zero] at this
  exact ⟨this, h1.od.frozen k⟩

theorem FilAt.cleared (h : FilAt w f g b q O od) : FilAt (w.setCells q 0 (List.replicate od.length (.int .i64 0))) f g b q O (List.replicate od.length 0) ∧ w.grownBy (w.setCells q 0 (List.replicate od.length (.int .i64 0))) (some q) := by
  obtain ⟨n1, n2, n3, n4, n5⟩ := h.ne
  obtain ⟨k1, k2⟩ := h.od.setsI (List.replicate od.length 0) (k := 0) (by simp)
  rw [List.map_replicate] at k1 k2
  have e : (List.replicate od.length (0 : Int)).length = od.length := by simp
  have e2 : List.take 0 od ++ List.replicate od.length 0 ++ od.drop (0 + (List.replicate od.length (0 : Int)).length) = List.replicate od.length 0 := by simp
  rw [e2] at k1
  refine ⟨⟨?_, h.gd.gr k2 (by intro e; injection e with e; exact n3 e) (by intro e; injection e with e; exact n4 e), ?_⟩, k2⟩
  · rw [e]; exact h.bx.gr k2 (by intro e; injection e with e; exact n2 e)
  · rw [e]; exact k1
end
/-- two boxes with points -/
def CR2 (w0 : World) (P Q : Pt) (s9 s10 : Value) (wx : World) : Prop :=
  ∃ x9 x10 : Nat, s9 = .pointer (some ⟨x9, 0, none⟩) ∧ s10 = .pointer (some ⟨x10, 0, none⟩) ∧ Box wx x9 30 [.int .i64 P.x, .int .i64 P.y] ∧ Box wx x10 30 [.int .i64 Q.x, .int .i64 Q.y] ∧ x9 ≠ x10 ∧ w0.heap.size ≤ x9 ∧ w0.heap.size ≤ x10 ∧ w0.grownBy wx none

theorem set2P_gr {w : World} {g : Nat} (u v : Value) : w.grownBy ((w.setCell ⟨g, 0, none⟩ u).setCell ⟨g, 1, none⟩ v) (some g) := gr_set (gr_set (World.grownBy.refl w (some g)) (.inl rfl) _) (.inl rfl) _

theorem box_set2P {w : World} {g : Nat} {t : TypeId} {a b : Value} (h : Box w g t [a, b]) (u v : Value) : Box ((w.setCell ⟨g, 0, none⟩ u).setCell ⟨g, 1, none⟩ v) g t [u, v] := (h.set_ 0 u (by simp)).set_ 1 v (by simp)

theorem box2_c {w : World} {g : Nat} {t : TypeId} {a b : Value} (h : Box w g t [a, b]) : Cell w g 0 a ∧ Cell w g 1 b := ⟨h.c 0 rfl, h.c 1 rfl⟩

set_option maxHeartbeats 8000000 in
set_option maxRecDepth 100000 in
theorem row_any (f g b q : Nat) (O : Grd) (od : List Int) (A : Option Addr) (n cc lo : Nat) (L : List Sid) (y : Int) (w : World) (h : FilAt w f g b q O od) (hod : od.length = O.wide + 1)
    (hL : Sl w lo A L) (hn : L.length = n) (hlo : b < lo ∧ q < lo ∧ f < lo) (hln : n ≤ 100000) (hbd : ∀ s ∈ L, bdP s.a ∧ bdP s.b) (hy : O.y ≤ y ∧ y < O.y + O.high) :
    Calls Tryz.prog 69 #[.pointer (some ⟨f, 0, none⟩), .slice A n cc, .int .i64 y] w fun e w' => e = .returned (.tuple #[]) ∧ ∃ od', RowI w f g b q O (rowT O y L) od' w' ∧ od'.length = O.wide + 1 := by
  have hO := h.gd.ok
  have hs := hO.s
  have hx := hO.x
  have hyb := hO.y
  have hw := hO.w
  have hh := hO.h
  obtain ⟨c, hc⟩ : ∃ c, c = cenI O.step y := ⟨_, rfl⟩
  obtain ⟨r, hr⟩ : ∃ r, r = (O.step).tdiv 2 := ⟨_, rfl⟩
  have hr' : r = O.step / 2 := by rw [hr]; exact Int.tdiv_eq_ediv_of_nonneg (by omega)
  obtain ⟨p, hp⟩ : ∃ p, p = y * O.step := ⟨_, rfl⟩
  have hpb : -200000000000 ≤ p ∧ p ≤ 200000000000 := by rw [hp]; exact mulm_bd (m := 20000000) (n := 10000) (by omega) (by omega) (by omega)
  have hrb : 0 ≤ r ∧ r ≤ 10000 := by omega
  have hpr : p + r = c := by rw [hc, cenI, hp, hr']
  have hcb : -300000000000 ≤ c ∧ c ≤ 300000000000 := by omega
  obtain ⟨hF, hgF⟩ := h.cleared
  have hcl : ∀ ty cc, (Builtin.clear_ #[22] ty #[.slice (some ⟨q, 0, none⟩) od.length cc]).run Tryz.prog w = .ok (.tuple #[]) (w.setCells q 0 (List.replicate od.length (.int .i64 0))) := fun ty cc =>
    Go.Lib.run_clear_slice (P := Tryz.prog) w _ _ ty _ Tryz.underlying22 zero_intF rfl rfl q 0 od.length cc (by omega) (fun j hj => by
      rw [Nat.zero_add]
      obtain ⟨cv, hcr, hcc⟩ := h.od.cell_at (by decide) hj
      have hcr' : cv = [.int .i64 od[j]] := hcr
      subst hcr'
      have := hcc 0 _ rfl
      rw [show Enc.sz Int = 1 from rfl, Nat.mul_one, Nat.add_zero] at this
      rw [this]; rfl) (fun j hj => by rw [Nat.zero_add]; exact h.od.frozen j)
  obtain ⟨d0, d1, d2, d3, d4⟩ := h.cells
  have hpv : y * O.step = p := hp.symm
  have hrv : (O.step).tdiv 2 = r := hr.symm
  clear hp hr hr'
  replace hod := hide hod
  replace hc := hide hc
  replace h := hide h
  replace hO := hide hO
  replace hL := hide hL
  replace hbd := hide hbd
  go_enter Tryz.func69, Tryz.ntmps69
  go_upto_region 1 with fail
  obtain ⟨w1, hw1⟩ : ∃ x, x = w.setCells q 0 (List.replicate od.length (.int .i64 0)) := ⟨_, rfl⟩
  rw [← hw1] at hF hgF ⊢
  clear hw1 hcl d0 d1 d2 d3 d4
  obtain ⟨d0, -, d2, -, -⟩ := hF.cells
  go_quiet (fail)
  go_upto_region 2 with fail
  have hR : RowI w f g b q O (fun u v => false || hitT O y c [] u v) (togL O c []) (w1.drewN nq) := by
    rw [togL_nil, ← hod.out]
    exact ⟨O, hF.pure (gr_drewN (World.grownBy.refl _ _) nq), Grd.same.refl O, fun x y => by simp [hit_nil], ((Gr2.refl w b q).sq hgF).pure (gr_drewN (World.grownBy.refl _ _) nq)⟩
  generalize w1.drewN nq = W1 at *
  clear hF hgF d0 d2
  go_wp2_with fail
  go_loopw [39] (fun i wr => ∃ k : Nat, k ≤ n ∧ i = .int .i64 k ∧ RowI w f g b q O (fun u v => false || hitT O y c (L.take k) u v) (togL O c (L.take k)) wr) (fun i _ => n - (intOf i).toNat)
  case atStart => exact ⟨0, Nat.zero_le _, rfl, hR⟩
  case round =>
    clear hR
    obtain ⟨k, hk, rfl, hR⟩ := hrel
    by_cases hlt : k < n
    · have hlt' : k < L.length := by rw [hn]; exact hlt
      have hlw := hR.gr2.sl hL.out hlo.1 hlo.2.1
      obtain ⟨ga, oa, rfl, hcell⟩ := sl_sidF (hlw.mono (Nat.zero_le _)) (by omega)
      obtain ⟨q0, q1, q2, q3, q4⟩ := hcell k hlt'
      have hbs := hbd.out _ (List.getElem_mem hlt')
      have htk := hide (List.take_succ_eq_append_getElem hlt')
      obtain ⟨s, hs0⟩ : ∃ s, s = L[k] := ⟨_, rfl⟩
      rw [← hs0] at q0 q1 q2 q3 q4 hbs htk
      obtain ⟨L0, hL0⟩ : ∃ L0, L0 = L.take k := ⟨_, rfl⟩
      rw [← hL0] at hR htk
      clear hcell hlw hs0 hlt' hL0
      replace hR := hide hR
      obtain ⟨rg, ⟨ax, ay⟩, ⟨bx, by_⟩⟩ := s
      go_upto_region 5 with fail
      have hlt0 := hR.out.lt
      obtain ⟨w8, hw8⟩ : ∃ x, x = (wr).alloc (.cells [.int .i64 rg, .int .i64 ax, .int .i64 ay, .int .i64 bx, .int .i64 by_].toArray 176) := ⟨_, rfl⟩
      have hg8 : (wr).grownBy w8 none := by rw [hw8]; exact gr_alloc (World.grownBy.refl _ _) _
      have hb8 : Box w8 (wr).heap.size 176 [.int .i64 rg, .int .i64 ax, .int .i64 ay, .int .i64 bx, .int .i64 by_] := by rw [hw8]; exact Box.new _ _ _
      have hxs8 := hb8.lt
      rw [← hw8]
      clear hw8
      obtain ⟨x8, hx8⟩ : ∃ x, x = (wr).heap.size := ⟨_, rfl⟩
      rw [← hx8] at hb8 hxs8 ⊢
      have hxl8 : (wr).heap.size ≤ x8 := by omega
      clear hx8
      have hx8 : b ≠ x8 ∧ q ≠ x8 := by omega
      have hR8 := hide (hR.out.pure hg8)
      clear hR hg8 q0 q1 q2 q3 q4 hlt0 hxs8 hxl8
      unfold bdP at hbs
      simp only at hbs
      obtain ⟨⟨-, -⟩, ⟨p1, -⟩, ⟨p2, -⟩, ⟨p3, -⟩, ⟨p4, -⟩⟩ := box5_c hb8
      go_upto_if 47 with fail
      go_cut [] (fun wx => Box wx x8 176 [.int .i64 rg, .int .i64 ax, .int .i64 ay, .int .i64 bx, .int .i64 by_] ∧ RowI w f g b q O (fun u v => (false || hitT O y c L0 u v) || mkT O y c ⟨rg, ⟨ax, ay⟩, ⟨bx, by_⟩⟩ u v) (togL O c L0) wx)
      case first =>
        rcases hab : (ay == c) with _ | _
        · have ha : ¬ ay = c := by simpa using hab
          have hfin := hide (hR8.out.congr (U := fun u v => (false || hitT O y c L0 u v) || mkT O y c ⟨rg, ⟨ax, ay⟩, ⟨bx, by_⟩⟩ u v) fun u v => by rw [mark_no ha, Bool.or_false])
          clear hR8 ha
          go_wp2_with fail
          go_meet
          exact ⟨hb8, hfin.out⟩
        · have ha := hide (show ay = c by simpa using hab)
          rcases hbb : (by_ == c) with _ | _
          · have hb := hide (show ¬ by_ = c by simpa using hbb)
            have hM := hide (mark_any w8 f g b q O _ _ y ax ax w8 hR8.out.rebase hO.out hy (by omega) (by omega))
            go_wp2_with fail
            refine hM.out.mono ?_
            rintro e w9 ⟨rfl, hR9⟩
            clear hM p1 p2 p3 p4
            replace hR9 := hide hR9
            go_wp2_with fail
            go_meet
            exact ⟨hR9.out.gr2.box hb8 hx8.1 hx8.2, (hR8.out.comp hR9.out).congr fun u v => by rw [← mark_one (s := ⟨rg, ⟨ax, ay⟩, ⟨bx, by_⟩⟩) ha.out hb.out]⟩
          · have hb := hide (show by_ = c by simpa using hbb)
            have hM := hide (mark_any w8 f g b q O _ _ y (min ax bx) (max ax bx) w8 hR8.out.rebase hO.out hy (by omega) (by omega))
            go_wp2_with fail
            refine hM.out.mono ?_
            rintro e w9 ⟨rfl, hR9⟩
            clear hM p1 p2 p3 p4
            replace hR9 := hide hR9
            go_wp2_with fail
            go_meet
            exact ⟨hR9.out.gr2.box hb8 hx8.1 hx8.2, (hR8.out.comp hR9.out).congr fun u v => by rw [← mark_both (s := ⟨rg, ⟨ax, ay⟩, ⟨bx, by_⟩⟩) ha.out hb.out]⟩
      case rest =>
      clear hb8 hR8 p1 p2 p3 p4
      obtain ⟨hb8, hRc⟩ := hcut
      generalize hwq : wc = wa at *
      clear hwq
      obtain ⟨⟨-, -⟩, ⟨p1, -⟩, ⟨p2, -⟩, ⟨p3, -⟩, ⟨p4, -⟩⟩ := box5_c hb8
      obtain ⟨s, hs0⟩ : ∃ s : Sid, s = ⟨rg, ⟨ax, ay⟩, ⟨bx, by_⟩⟩ := ⟨_, rfl⟩
      rw [← hs0] at hRc htk
      obtain ⟨d1, hd1⟩ : ∃ d, d = decide (ay > c) := ⟨_, rfl⟩
      obtain ⟨d2, hd2⟩ : ∃ d, d = decide (by_ > c) := ⟨_, rfl⟩
      have hac : acrS s c = (d1 != d2) := by rw [hs0, hd1, hd2]; rfl
      have hd1' : decide (c < ay) = d1 := hd1.symm
      have hd2' : decide (c < by_) = d2 := hd2.symm
      clear hd1 hd2
      rcases hd : (d1 != d2) with _ | _
      · rw [hd] at hac
        have hdd : (d1 == d2) = true := by simpa using hd
        have hfin := hide (show RowI w f g b q O (fun u v => false || hitT O y c (L.take (k + 1)) u v) (togL O c (L.take (k + 1))) wa by
          rw [htk.out, togL_na hac]
          exact hRc.congr fun u v => by rw [hit_next, touch_na hac]; simp)
        clear hRc hd hac hs0 hbs
        go_wp2_with fail
        (go_roundw; (case rel => exact ⟨k + 1, by omega, by go_num, hfin.out⟩); (case measure => simp [intOf]; omega))
      · rw [hd] at hac
        have hdd : (d1 == d2) = false := by simpa using hd
        replace hac := hide hac
        replace hs0 := hide hs0
        replace hRc := hide hRc
        go_upto_region 10 with fail
        clear hd hdd hd1' hd2'
        go_cut [9, 10] from 90 to 94 (fun s9 s10 wx => CR2 wa ⟨ax, ay⟩ ⟨bx, by_⟩ s9 s10 wx)
        case first =>
          refine wp_region_tree (fun wx => wa.grownBy wx none) [2, 1, 2, 1, 0, 0, 0, 0] (.bl 0 (.bl 1 (.bl 2 (.bl 3 (.alt (.ef 4 (.ef 5 (.ef 6 (.ef 7 .done)))) (.ef 5 (.ef 4 (.ef 6 (.ef 7 .done))))))))) (by kernel_rfl) (by kernel_rfl) (gr_drew (World.grownBy.refl _ _)) ?_
          obtain ⟨W1, hW1⟩ : ∃ x, x = (wa).drew := ⟨_, rfl⟩
          rw [← hW1]
          have hgW1 : (wa).grownBy W1 none := by rw [hW1]; exact gr_drew (World.grownBy.refl _ _)
          clear hW1
          have hcur := hgW1
          refine tree_p rfl rfl rfl rfl _ rfl (by simp) (fun K hK => ?_)
          apply Exists.intro
          refine ⟨fun wq K' hK' => ?_, ?_⟩
          · go_wp2_with fail
            exact hK'
          go_simp
          refine hK _ ?_
          clear hK K
          refine tree_b rfl rfl rfl rfl _ rfl (by simp) (fun K hK => ?_)
          apply Exists.intro
          refine ⟨fun wq hq K' hK' => ?_, ?_⟩
          · have q1 := hq.k p1
            have q2 := hq.k p2
            have q3 := hq.k p3
            have q4 := hq.k p4
            go_wp2_with fail
            exact hK'
          go_simp
          refine hK _ ?_
          clear hK K
          refine tree_p rfl rfl rfl rfl _ rfl (by simp) (fun K hK => ?_)
          apply Exists.intro
          refine ⟨fun wq K' hK' => ?_, ?_⟩
          · go_wp2_with fail
            exact hK'
          go_simp
          refine hK _ ?_
          clear hK K
          refine tree_b rfl rfl rfl rfl _ rfl (by simp) (fun K hK => ?_)
          apply Exists.intro
          refine ⟨fun wq hq K' hK' => ?_, ?_⟩
          · have q1 := hq.k p1
            have q2 := hq.k p2
            have q3 := hq.k p3
            have q4 := hq.k p4
            go_wp2_with fail
            exact hK'
          go_simp
          refine hK _ ?_
          clear hK K
          refine tree_alt ?_ ?_
          · refine tree_e rfl rfl (fun K hK => ?_)
            go_wp2_with fail
            try go_simp
            refine hK _ _ (gr_alloc hcur _) ?_
            clear hK K
            obtain ⟨w4, hw4⟩ : ∃ x, x = (W1).alloc (.cells #[.int .i64 0, .int .i64 0] 30) := ⟨_, rfl⟩
            have hg4 : (W1).grownBy w4 none := by rw [hw4]; exact gr_alloc (World.grownBy.refl _ _) _
            have b4 : Box w4 (W1).heap.size 30 [.int .i64 0, .int .i64 0] := by rw [hw4]; exact Box.new _ _ _
            rw [← hw4]
            clear hw4
            have hxs4 := hcur.size
            obtain ⟨x4, hx4⟩ : ∃ x, x = (W1).heap.size := ⟨_, rfl⟩
            rw [← hx4] at b4 hxs4 ⊢
            replace hcur := gr_trans hcur hg4
            clear hx4 hg4
            refine tree_e rfl rfl (fun K hK => ?_)
            go_wp2_with fail
            try go_simp
            refine hK _ _ (gr_alloc hcur _) ?_
            clear hK K
            obtain ⟨w5, hw5⟩ : ∃ x, x = (w4).alloc (.cells #[.int .i64 0, .int .i64 0] 30) := ⟨_, rfl⟩
            have hg5 : (w4).grownBy w5 none := by rw [hw5]; exact gr_alloc (World.grownBy.refl _ _) _
            have b5 : Box w5 (w4).heap.size 30 [.int .i64 0, .int .i64 0] := by rw [hw5]; exact Box.new _ _ _
            rw [← hw5]
            clear hw5
            have hxs5 := hcur.size
            obtain ⟨x5, hx5⟩ : ∃ x, x = (w4).heap.size := ⟨_, rfl⟩
            rw [← hx5] at b5 hxs5 ⊢
            have hnb : x4 ≠ x5 := by have := b4.lt; omega
            replace b4 := b4.pure hg5
            replace hcur := gr_trans hcur hg5
            clear hx5 hg5
            refine tree_e rfl rfl (fun K hK => ?_)
            obtain ⟨⟨k0, f0⟩, ⟨k1, f1⟩⟩ := box2_c b4
            go_wp2_with fail
            try go_simp
            refine hK _ _ (gr_new hcur (set2P_gr _ _) hxs4) ?_
            clear hK K
            obtain ⟨w6, hw6⟩ : ∃ x, x = ((w5).setCell ⟨x4, 0, none⟩ (.int .i64 ax)).setCell ⟨x4, 1, none⟩ (.int .i64 ay) := ⟨_, rfl⟩
            have hg6 : (w5).grownBy w6 (some x4) := by rw [hw6]; exact set2P_gr _ _
            replace b4 := box_set2P b4 (.int .i64 ax) (.int .i64 ay)
            rw [← hw6] at b4
            rw [← hw6]
            clear hw6
            replace b5 := b5.gr hg6 (by intro e; injection e with e; omega)
            replace hcur := gr_new hcur hg6 hxs4
            clear hg6
            refine tree_e0 (by kernel_rfl) rfl rfl (fun K hK => ?_)
            obtain ⟨⟨k0, f0⟩, ⟨k1, f1⟩⟩ := box2_c b5
            go_wp2_with fail
            try go_simp
            refine hK _ _ trivial ?_
            clear hK K
            obtain ⟨w7, hw7⟩ : ∃ x, x = ((w6).setCell ⟨x5, 0, none⟩ (.int .i64 bx)).setCell ⟨x5, 1, none⟩ (.int .i64 by_) := ⟨_, rfl⟩
            have hg7 : (w6).grownBy w7 (some x5) := by rw [hw7]; exact set2P_gr _ _
            replace b5 := box_set2P b5 (.int .i64 bx) (.int .i64 by_)
            rw [← hw7] at b5
            rw [← hw7]
            clear hw7
            replace b4 := b4.gr hg7 (by intro e; injection e with e; omega)
            replace hcur := gr_new hcur hg7 hxs5
            clear hg7
            refine tree_done ?_
            go_wp2_with fail
            go_meet
            exact ⟨x4, x5, rfl, rfl, b4, b5, by omega, hxs4, hxs5, hcur⟩
          · refine tree_e rfl rfl (fun K hK => ?_)
            go_wp2_with fail
            try go_simp
            refine hK _ _ (gr_alloc hcur _) ?_
            clear hK K
            obtain ⟨w5, hw5⟩ : ∃ x, x = (W1).alloc (.cells #[.int .i64 0, .int .i64 0] 30) := ⟨_, rfl⟩
            have hg5 : (W1).grownBy w5 none := by rw [hw5]; exact gr_alloc (World.grownBy.refl _ _) _
            have b5 : Box w5 (W1).heap.size 30 [.int .i64 0, .int .i64 0] := by rw [hw5]; exact Box.new _ _ _
            rw [← hw5]
            clear hw5
            have hxs5 := hcur.size
            obtain ⟨x5, hx5⟩ : ∃ x, x = (W1).heap.size := ⟨_, rfl⟩
            rw [← hx5] at b5 hxs5 ⊢
            replace hcur := gr_trans hcur hg5
            clear hx5 hg5
            refine tree_e rfl rfl (fun K hK => ?_)
            go_wp2_with fail
            try go_simp
            refine hK _ _ (gr_alloc hcur _) ?_
            clear hK K
            obtain ⟨w4, hw4⟩ : ∃ x, x = (w5).alloc (.cells #[.int .i64 0, .int .i64 0] 30) := ⟨_, rfl⟩
            have hg4 : (w5).grownBy w4 none := by rw [hw4]; exact gr_alloc (World.grownBy.refl _ _) _
            have b4 : Box w4 (w5).heap.size 30 [.int .i64 0, .int .i64 0] := by rw [hw4]; exact Box.new _ _ _
            rw [← hw4]
            clear hw4
            have hxs4 := hcur.size
            obtain ⟨x4, hx4⟩ : ∃ x, x = (w5).heap.size := ⟨_, rfl⟩
            rw [← hx4] at b4 hxs4 ⊢
            have hnb : x5 ≠ x4 := by have := b5.lt; omega
            replace b5 := b5.pure hg4
            replace hcur := gr_trans hcur hg4
            clear hx4 hg4
            refine tree_e rfl rfl (fun K hK => ?_)
            obtain ⟨⟨k0, f0⟩, ⟨k1, f1⟩⟩ := box2_c b4
            go_wp2_with fail
            try go_simp
            refine hK _ _ (gr_new hcur (set2P_gr _ _) hxs4) ?_
            clear hK K
            obtain ⟨w6, hw6⟩ : ∃ x, x = ((w4).setCell ⟨x4, 0, none⟩ (.int .i64 ax)).setCell ⟨x4, 1, none⟩ (.int .i64 ay) := ⟨_, rfl⟩
            have hg6 : (w4).grownBy w6 (some x4) := by rw [hw6]; exact set2P_gr _ _
            replace b4 := box_set2P b4 (.int .i64 ax) (.int .i64 ay)
            rw [← hw6] at b4
            rw [← hw6]
            clear hw6
            replace b5 := b5.gr hg6 (by intro e; injection e with e; omega)
            replace hcur := gr_new hcur hg6 hxs4
            clear hg6
            refine tree_e0 (by kernel_rfl) rfl rfl (fun K hK => ?_)
            obtain ⟨⟨k0, f0⟩, ⟨k1, f1⟩⟩ := box2_c b5
            go_wp2_with fail
            try go_simp
            refine hK _ _ trivial ?_
            clear hK K
            obtain ⟨w7, hw7⟩ : ∃ x, x = ((w6).setCell ⟨x5, 0, none⟩ (.int .i64 bx)).setCell ⟨x5, 1, none⟩ (.int .i64 by_) := ⟨_, rfl⟩
            have hg7 : (w6).grownBy w7 (some x5) := by rw [hw7]; exact set2P_gr _ _
            replace b5 := box_set2P b5 (.int .i64 bx) (.int .i64 by_)
            rw [← hw7] at b5
            rw [← hw7]
            clear hw7
            replace b4 := b4.gr hg7 (by intro e; injection e with e; omega)
            replace hcur := gr_new hcur hg7 hxs5
            clear hg7
            refine tree_done ?_
            go_wp2_with fail
            go_meet
            exact ⟨x4, x5, rfl, rfl, b4, b5, by omega, hxs4, hxs5, hcur⟩
        case rest =>
        obtain ⟨x9, x10, rfl, rfl, b9, b10, hxn, hx9, hx10, hg10⟩ := hcut
        clear hb8 p1 p2 p3 p4
        generalize hwq : wc = wb at *
        clear hwq
        have hltc := hRc.out.lt
        have hszc := hRc.out.gr2.size
        have hRd := hide (hRc.out.pure hg10)
        clear hRc
        obtain ⟨⟨k0, f0⟩, ⟨k1, f1⟩⟩ := box2_c b9
        obtain ⟨⟨k2, f2⟩, ⟨k3, f3⟩⟩ := box2_c b10
        obtain ⟨l1, l2, l3, l4⟩ := hltc
        go_upto_if 98 with fail
        go_cut [] (fun wx => Box wx x9 30 [.int .i64 (lowS s).x, .int .i64 (lowS s).y] ∧ Box wx x10 30 [.int .i64 (hiS s).x, .int .i64 (hiS s).y] ∧ RowI w f g b q O (fun u v => false || hitT O y c L0 u v || mkT O y c s u v) (togL O c L0) wx)
        case first =>
          by_cases hyy : by_ < ay
          · have e1 : Hid (lowS s = ⟨bx, by_⟩) := by rw [hs0.out, Hid]; unfold lowS; rw [if_pos hyy]
            have e2 : Hid (hiS s = ⟨ax, ay⟩) := by rw [hs0.out, Hid]; unfold hiS; rw [if_pos hyy]
            go_wp2_with fail
            clear k0 k1 k2 k3 f0 f1 f2 f3
            go_meet
            rw [e1.out, e2.out]
            have hga := set2P_gr (w := wb) (g := x9) (.int .i64 bx) (.int .i64 by_)
            have j9 := box_set2P b9 (.int .i64 bx) (.int .i64 by_)
            have j10 := b10.gr hga (by intro e; injection e with e; exact hxn e)
            have hgb := set2P_gr (w := (wb.setCell ⟨x9, 0, none⟩ (.int .i64 bx)).setCell ⟨x9, 1, none⟩ (.int .i64 by_)) (g := x10) (.int .i64 ax) (.int .i64 ay)
            exact ⟨j9.gr hgb (by intro e; injection e with e; exact hxn e.symm), box_set2P j10 _ _, (hRd.out.frm hga ⟨by omega, by omega, by omega, by omega⟩ (by omega)).frm hgb ⟨by omega, by omega, by omega, by omega⟩ (by omega)⟩
          · have e1 : Hid (lowS s = ⟨ax, ay⟩) := by rw [hs0.out, Hid]; unfold lowS; rw [if_neg hyy]
            have e2 : Hid (hiS s = ⟨bx, by_⟩) := by rw [hs0.out, Hid]; unfold hiS; rw [if_neg hyy]
            have hyy' : ay ≤ by_ := by omega
            clear hyy
            go_wp2_with fail
            clear k0 k1 k2 k3 f0 f1 f2 f3
            go_meet
            rw [e1.out, e2.out]
            exact ⟨b9, b10, hRd.out⟩
        case rest =>
        clear b9 b10 hRd k0 k1 k2 k3 f0 f1 f2 f3
        obtain ⟨b9, b10, hRd⟩ := hcut
        generalize hwq : wc = wd at *
        clear hwq
        have hgE : wb.heap.size ≤ wd.heap.size ∨ True := .inr trivial
        have hnum : Hid (numS s c = (lowS s).x * ((hiS s).y - (lowS s).y) + (c - (lowS s).y) * ((hiS s).x - (lowS s).x)) := rfl
        have hden : Hid (denS s = (hiS s).y - (lowS s).y) := rfl
        have hay := acr_y hac.out
        have hlb : bdP (lowS s) ∧ bdP (hiS s) := by
          rw [hs0.out]; unfold lowS hiS bdP; split <;> (simp only; omega)
        have hcol := hide (fun W (hg : wd.grownBy W none) (h1 : -1000000000000 ≤ numS s c ∧ numS s c ≤ 1000000000000) (h2 : 1 ≤ denS s ∧ denS s ≤ 1000000) => column_any w f g b q O _ _ (numS s c) (denS s) W (hRd.pure hg) hO.out h1 h2)
        replace hRd := hide hRd
        clear hgE
        obtain ⟨C, hC⟩ : ∃ C, C = colC O.x O.step O.wide (numS s c) (denS s) := ⟨_, rfl⟩
        obtain ⟨J, hJ⟩ : ∃ J, J = colJ O.x O.step O.wide (numS s c) (denS s) := ⟨_, rfl⟩
        rw [← hC, ← hJ] at hcol
        have hCb := colC_bd (X := O.x) (step := O.step) (num := numS s c) (den := denS s) (W := (O.wide : Int)) (by omega)
        rw [← hC] at hCb
        replace hC := hide hC
        replace hJ := hide hJ
        generalize numS s c = num at hcol hnum
        generalize denS s = den at hcol hnum hden
        generalize lowS s = P at *
        generalize hiS s = Q at *
        unfold bdP at hlb
        have h3 : Q.y - P.y = den := hden.out.symm
        obtain ⟨u1, hu1⟩ : ∃ u, u = c - P.y := ⟨_, rfl⟩
        obtain ⟨u2, hu2⟩ : ∃ u, u = Q.x - P.x := ⟨_, rfl⟩
        obtain ⟨m1, hm1⟩ : ∃ m, m = P.x * den := ⟨_, rfl⟩
        obtain ⟨m2, hm2⟩ : ∃ m, m = u1 * u2 := ⟨_, rfl⟩
        have hm1b : -100000000000 ≤ m1 ∧ m1 ≤ 100000000000 := by rw [hm1]; exact mulm_bd (m := 100000) (n := 1000000) (by omega) (by omega) (by omega)
        have hm2b : -100000000000 ≤ m2 ∧ m2 ≤ 100000000000 := by rw [hm2]; exact mulm_bd (m := 200000) (n := 500000) (by omega) (by omega) (by omega)
        have hnv : m1 + m2 = num := by rw [hnum.out, h3, ← hu1, ← hu2, ← hm1, ← hm2]
        have hdenb : 1 ≤ den ∧ den ≤ 1000000 := by omega
        have hnb : -1000000000000 ≤ num ∧ num ≤ 1000000000000 := by omega
        have hu1b : -300000 ≤ u1 ∧ u1 ≤ 300000 := by omega
        have hu2b : -300000 ≤ u2 ∧ u2 ≤ 300000 := by omega
        replace hu1 : c - P.y = u1 := hu1.symm
        replace hu2 : Q.x - P.x = u2 := hu2.symm
        replace hm1 : P.x * den = m1 := hm1.symm
        replace hm2 : u1 * u2 = m2 := hm2.symm
        clear hnum hden hay
        obtain ⟨⟨k0, -⟩, ⟨k1, -⟩⟩ := box2_c b9
        obtain ⟨⟨k2, -⟩, ⟨k3, -⟩⟩ := box2_c b10
        go_wp2_with fail
        refine (hcol.out wd (World.grownBy.refl _ _) hnb hdenb).mono ?_
        rintro e we ⟨rfl, hge⟩
        have hRe := hide (hRd.out.pure hge)
        clear hRd hcol hge k0 k1 k2 k3 b9 b10 h3 hu1 hu2 hm1 hm2 hnv hnb hdenb hu1b hu2b hm1b hm2b hlb
        go_upto_if 130 with fail
        go_cut [] (fun wx => RowI w f g b q O (fun u v => false || hitT O y c (L0 ++ [s]) u v) (togL O c L0) wx)
        case first =>
          cases J
          · have hfin := hide (hRe.out.congr (U := fun u v => false || hitT O y c (L0 ++ [s]) u v) fun u v => by rw [hit_next, touch_no (by omega) hac.out hJ.out.symm]; simp)
            clear hRe
            go_wp2_with fail
            go_meet
            exact hfin.out
          · have hlt2 := colJ_lt hJ.out.symm
            rw [← hC.out] at hlt2
            have hset := hide (fun W (hg : we.grownBy W none) => rowSet_any w f g b q O _ (fun u v => false || hitT O y c (L0 ++ [s]) u v) _ (O.x + C) y W (hRe.out.pure hg) (by unfold Grd.In; omega) (fun u v => by rw [hC.out, touch_set (by omega) hac.out hJ.out.symm, hit_next]; simp [Bool.or_assoc]))
            have hcl := hide (fun W (hg : we.grownBy W none) => (hRe.out.pure hg).cells)
            clear hRe
            go_upto_region 15 with fail
            refine wp_region_tree (fun wx => we.grownBy wx none) [2, 2, 2, 1, 2, 2, 2, 1, 2, 2, 1, 2, 2, 2, 0] (.bl 0 (.bl 1 (.bl 2 (.bl 3 (.bl 4 (.bl 5 (.bl 6 (.bl 7 (.bl 8 (.bl 9 (.bl 10 (.bl 11 (.bl 12 (.bl 13 (.ef 14 .done))))))))))))))) (by kernel_rfl) (by kernel_rfl) (gr_drew (World.grownBy.refl _ _)) ?_
            obtain ⟨w3, hw3⟩ : ∃ x, x = (we).drew := ⟨_, rfl⟩
            rw [← hw3]
            have hgw3 : (we).grownBy w3 none := by rw [hw3]; exact gr_drew (World.grownBy.refl _ _)
            clear hw3
            refine tree_p rfl rfl rfl rfl _ rfl (by simp) (fun K hK => ?_)
            apply Exists.intro
            refine ⟨fun wq K' hK' => ?_, ?_⟩
            · go_wp2_with fail
              exact hK'
            go_simp
            refine hK _ ?_
            clear hK K
            refine tree_n rfl rfl _ rfl _ rfl ?_
            try go_simp
            refine tree_p rfl rfl rfl rfl _ rfl (by simp) (fun K hK => ?_)
            apply Exists.intro
            refine ⟨fun wq K' hK' => ?_, ?_⟩
            · go_wp2_with fail
              exact hK'
            go_simp
            refine hK _ ?_
            clear hK K
            refine tree_b rfl rfl rfl rfl _ rfl (by simp) (fun K hK => ?_)
            apply Exists.intro
            refine ⟨fun wq hq K' hK' => ?_, ?_⟩
            · obtain ⟨c0, -, -, c3, -⟩ := hcl.out wq hq
              go_wp2_with fail
              exact hK'
            go_simp
            refine hK _ ?_
            clear hK K
            refine tree_p rfl rfl rfl rfl _ rfl (by simp) (fun K hK => ?_)
            apply Exists.intro
            refine ⟨fun wq K' hK' => ?_, ?_⟩
            · go_wp2_with fail
              exact hK'
            go_simp
            refine hK _ ?_
            clear hK K
            refine tree_n rfl rfl _ rfl _ rfl ?_
            try go_simp
            refine tree_p rfl rfl rfl rfl _ rfl (by simp) (fun K hK => ?_)
            apply Exists.intro
            refine ⟨fun wq K' hK' => ?_, ?_⟩
            · go_wp2_with fail
              exact hK'
            go_simp
            refine hK _ ?_
            clear hK K
            refine tree_b rfl rfl rfl rfl _ rfl (by simp) (fun K hK => ?_)
            apply Exists.intro
            refine ⟨fun wq hq K' hK' => ?_, ?_⟩
            · obtain ⟨c0, -, -, c3, -⟩ := hcl.out wq hq
              go_wp2_with fail
              exact hK'
            go_simp
            refine hK _ ?_
            clear hK K
            refine tree_n rfl rfl _ rfl _ rfl ?_
            try go_simp
            refine tree_p rfl rfl rfl rfl _ rfl (by simp) (fun K hK => ?_)
            apply Exists.intro
            refine ⟨fun wq K' hK' => ?_, ?_⟩
            · go_wp2_with fail
              exact hK'
            go_simp
            refine hK _ ?_
            clear hK K
            refine tree_b rfl rfl rfl rfl _ rfl (by simp) (fun K hK => ?_)
            apply Exists.intro
            refine ⟨fun wq hq K' hK' => ?_, ?_⟩
            · obtain ⟨c0, -, -, c3, -⟩ := hcl.out wq hq
              go_wp2_with fail
              exact hK'
            go_simp
            refine hK _ ?_
            clear hK K
            refine tree_p rfl rfl rfl rfl _ rfl (by simp) (fun K hK => ?_)
            apply Exists.intro
            refine ⟨fun wq K' hK' => ?_, ?_⟩
            · go_wp2_with fail
              exact hK'
            go_simp
            refine hK _ ?_
            clear hK K
            refine tree_p rfl rfl rfl rfl _ rfl (by simp) (fun K hK => ?_)
            apply Exists.intro
            refine ⟨fun wq K' hK' => ?_, ?_⟩
            · go_wp2_with fail
              exact hK'
            go_simp
            refine hK _ ?_
            clear hK K
            refine tree_p rfl rfl rfl rfl _ rfl (by simp) (fun K hK => ?_)
            apply Exists.intro
            refine ⟨fun wq K' hK' => ?_, ?_⟩
            · go_wp2_with fail
              exact hK'
            go_simp
            refine hK _ ?_
            clear hK K
            refine tree_e0 (by kernel_rfl) rfl rfl (fun K hK => ?_)
            go_wp2_with fail
            refine (hset.out w3 (gr_trans hgw3 (World.grownBy.refl _ _))).mono ?_
            rintro e w4 ⟨rfl, hR4⟩
            replace hR4 := hide hR4
            go_wp2_with fail
            try go_simp
            refine hK _ _ trivial ?_
            clear hK K
            refine tree_done ?_
            go_wp2_with fail
            go_meet
            exact hR4.out
        case rest =>
        clear hRe
        generalize hwq : wc = wf at *
        clear hwq
        obtain ⟨m, hm⟩ : ∃ m : Nat, C = m := ⟨C.toNat, by omega⟩
        rw [hm] at hC hCb
        subst hm
        have hml : m < (togL O c L0).length := by rw [togL_len]; omega
        have htg := hcut.toggle hml
        rw [togL_at] at htg
        have hfin := hide (show RowI w f g b q O (fun u v => false || hitT O y c (L.take (k + 1)) u v) (togL O c (L.take (k + 1))) (wf.setCell ⟨q, m, none⟩ (.int .i64 ((togN O.x O.step O.wide c L0 m : Int) + 1))) by
          rw [htk.out, togL_set hac.out hC.out (by omega)]
          exact hcut.odd hml _)
        obtain ⟨k0, k1, -, -, -⟩ := hcut.cells
        have hzb : togN O.x O.step O.wide c L0 m ≤ 100000 := by
          have := togN_le (X := O.x) (step := O.step) (W := (O.wide : Int)) (c := c) (l := L0) (m := m)
          have h2 := congrArg List.length htk.out
          rw [List.length_take, List.length_append, List.length_singleton] at h2
          omega
        have htl : m < O.wide + 1 := by omega
        rw [togL_len] at k1
        obtain ⟨t0, t1⟩ := htg
        generalize togN O.x O.step O.wide c L0 m = z at *
        clear hcut hml
        go_wp2_with fail
        (go_roundw; (case rel => exact ⟨k + 1, by omega, by go_num, hfin.out⟩); (case measure => simp [intOf]; omega))
    · obtain rfl : k = n := by omega
      have hfull : L.take k = L := by rw [← hn]; exact List.take_length
      rw [hfull] at hR
      have hLb : L.length ≤ 100000 := by omega
      clear hlt hk hfull hlo hln hL hbd hn
      have hR0 : RowI w f g b q O (fun u v => hitT O y c L u v || oddT O y c L 0 u v) (togL O c L) wr := hR.congr fun u v => by rw [odd_zero]; simp
      obtain ⟨k0, k1, -, k3, k4⟩ := hR.cells
      clear hR
      go_wp2_with fail
      clear k0 k1 k3 k4
      go_loopw [13, 14] (fun s i wr => ∃ n' m : Nat, Hid (m + n' = O.wide) ∧ s = .int .i64 (sumT (togN O.x O.step O.wide c L) O.wide n' : Int) ∧ i = .int .i64 m ∧ RowI w f g b q O (fun u v => hitT O y c L u v || oddT O y c L n' u v) (togL O c L) wr) (fun _ i _ => (intOf i).toNat)
      case atStart => exact ⟨0, O.wide, by simp [Hid], rfl, rfl, hR0⟩
      case round =>
        clear hR0
        obtain ⟨n', m, hmn, rfl, rfl, hR⟩ := hrel
        rcases m with _ | m
        · have hfin := hide (show RowI w f g b q O (rowT O y L) (togL O c L) wr from hR.congr fun u v => by
            have e : n' = O.wide := by have := hmn.out; omega
            rw [e, hc.out, odd_all])
          clear hR
          go_wp2_with fail
          go_end0
          exact ⟨rfl, _, hfin.out, togL_len⟩
        · have hmW := hmn.out
          have hml : m + 1 < (togL O c L).length := by rw [togL_len]; omega
          have htg := hR.toggle hml
          rw [togL_at] at htg
          obtain ⟨t0, -⟩ := htg
          have hS1 : Hid (sumT (togN O.x O.step O.wide c L) O.wide (n' + 1) = sumT (togN O.x O.step O.wide c L) O.wide n' + togN O.x O.step O.wide c L (m + 1)) := by
            show Hid (sumT _ _ _ + _ = _)
            rw [Hid, show O.wide - n' = m + 1 by omega]
          have hodd := hide (fun u v => odd_next (O := O) (y := y) (c := c) (L := L) (n := n') (by omega) (by omega) u v)
          have hSb := sumT_le (f := togN O.x O.step O.wide c L) (W := O.wide) (b := 100000) (fun m => Nat.le_trans togN_le hLb) n'
          have hSb2 : sumT (togN O.x O.step O.wide c L) O.wide n' ≤ 100000000 := Nat.le_trans hSb (by omega)
          have hzb : togN O.x O.step O.wide c L (m + 1) ≤ 100000 := Nat.le_trans togN_le hLb
          obtain ⟨k0, k1, -, k3, k4⟩ := hR.cells
          rw [togL_len] at k1
          clear hSb hml
          obtain ⟨S1, hS1e⟩ : ∃ S, S = sumT (togN O.x O.step O.wide c L) O.wide (n' + 1) := ⟨_, rfl⟩
          rw [← hS1e] at hodd hS1 
          replace hS1e := hide hS1e
          generalize sumT (togN O.x O.step O.wide c L) O.wide n' = S0 at *
          generalize togN O.x O.step O.wide c L (m + 1) = z at *
          have hsum : (S0 : Int) + (z : Int) = (S1 : Int) := by rw [hS1.out]; simp
          have hS1b : S1 ≤ 200000000 := by rw [hS1.out]; omega
          obtain ⟨r2, hr2⟩ : ∃ r2 : Int, r2 = (S1 : Int).tmod 2 := ⟨_, rfl⟩
          have hr2v : r2 = ((S1 % 2 : Nat) : Int) := by rw [hr2]; rfl
          replace hr2 : (S1 : Int).tmod 2 = r2 := hr2.symm
          have hW1 : Hid (((O.wide - 1 - n' : Nat) : Int) = m) := by rw [Hid]; omega
          have hRh := hide hR
          replace hmn := hide hmW
          clear hR
          rcases hb1 : (r2 == 1) with _ | _
          · have hfin := hide (hRh.out.congr (U := fun u v => hitT O y c L u v || oddT O y c L (n' + 1) u v) fun u v => by
              have e : ¬ S1 % 2 = 1 := by simp at hb1; omega
              rw [hodd.out, decide_eq_false e]; simp)
            clear hRh hr2v hodd hS1
            go_wp2_with fail
            (go_roundw; (case rel => exact ⟨n' + 1, m, show m + (n' + 1) = O.wide from by have := hmn.out; omega, by rw [hS1e.out], by go_num, hfin.out⟩); (case measure => simp [intOf]))
          · have hset := hide (fun W X' (hg : wr.grownBy W none) (hX : X' = O.x + m) => rowSet_any w f g b q O _ (fun u v => hitT O y c L u v || oddT O y c L (n' + 1) u v) _ X' y W (hRh.out.pure hg) (by unfold Grd.In; have := hmn.out; omega) (fun u v => by
              have e : S1 % 2 = 1 := by simp at hb1; omega
              rw [hodd.out, decide_eq_true e, hW1.out, hX]; simp [Bool.or_assoc]))
            have hcl := hide (fun W (hg : wr.grownBy W none) => (hRh.out.pure hg).cells)
            clear hRh hr2v hodd hS1
            go_upto_region 24 with fail
            clear k0 k1 k3 k4 t0
            refine wp_region_tree (fun wx => wr.grownBy wx none) [2, 2, 2, 1, 2, 2, 2, 1, 2, 2, 1, 2, 2, 2, 2, 0] (.bl 0 (.bl 1 (.bl 2 (.bl 3 (.bl 4 (.bl 5 (.bl 6 (.bl 7 (.bl 8 (.bl 9 (.bl 10 (.bl 11 (.bl 12 (.bl 13 (.bl 14 (.ef 15 .done)))))))))))))))) (by kernel_rfl) (by kernel_rfl) (gr_drew (World.grownBy.refl _ _)) ?_
            obtain ⟨w3, hw3⟩ : ∃ x, x = (wr).drew := ⟨_, rfl⟩
            rw [← hw3]
            have hgw3 : (wr).grownBy w3 none := by rw [hw3]; exact gr_drew (World.grownBy.refl _ _)
            clear hw3
            refine tree_p rfl rfl rfl rfl _ rfl (by simp) (fun K hK => ?_)
            apply Exists.intro
            refine ⟨fun wq K' hK' => ?_, ?_⟩
            · go_wp2_with fail
              exact hK'
            go_simp
            refine hK _ ?_
            clear hK K
            refine tree_n rfl rfl _ rfl _ rfl ?_
            try go_simp
            refine tree_p rfl rfl rfl rfl _ rfl (by simp) (fun K hK => ?_)
            apply Exists.intro
            refine ⟨fun wq K' hK' => ?_, ?_⟩
            · go_wp2_with fail
              exact hK'
            go_simp
            refine hK _ ?_
            clear hK K
            refine tree_b rfl rfl rfl rfl _ rfl (by simp) (fun K hK => ?_)
            apply Exists.intro
            refine ⟨fun wq hq K' hK' => ?_, ?_⟩
            · obtain ⟨c0, -, -, c3, -⟩ := hcl.out wq hq
              go_wp2_with fail
              exact hK'
            go_simp
            refine hK _ ?_
            clear hK K
            refine tree_p rfl rfl rfl rfl _ rfl (by simp) (fun K hK => ?_)
            apply Exists.intro
            refine ⟨fun wq K' hK' => ?_, ?_⟩
            · go_wp2_with fail
              exact hK'
            go_simp
            refine hK _ ?_
            clear hK K
            refine tree_n rfl rfl _ rfl _ rfl ?_
            try go_simp
            refine tree_p rfl rfl rfl rfl _ rfl (by simp) (fun K hK => ?_)
            apply Exists.intro
            refine ⟨fun wq K' hK' => ?_, ?_⟩
            · go_wp2_with fail
              exact hK'
            go_simp
            refine hK _ ?_
            clear hK K
            refine tree_b rfl rfl rfl rfl _ rfl (by simp) (fun K hK => ?_)
            apply Exists.intro
            refine ⟨fun wq hq K' hK' => ?_, ?_⟩
            · obtain ⟨c0, -, -, c3, -⟩ := hcl.out wq hq
              go_wp2_with fail
              exact hK'
            go_simp
            refine hK _ ?_
            clear hK K
            refine tree_n rfl rfl _ rfl _ rfl ?_
            try go_simp
            refine tree_p rfl rfl rfl rfl _ rfl (by simp) (fun K hK => ?_)
            apply Exists.intro
            refine ⟨fun wq K' hK' => ?_, ?_⟩
            · go_wp2_with fail
              exact hK'
            go_simp
            refine hK _ ?_
            clear hK K
            refine tree_b rfl rfl rfl rfl _ rfl (by simp) (fun K hK => ?_)
            apply Exists.intro
            refine ⟨fun wq hq K' hK' => ?_, ?_⟩
            · obtain ⟨c0, -, -, c3, -⟩ := hcl.out wq hq
              go_wp2_with fail
              exact hK'
            go_simp
            refine hK _ ?_
            clear hK K
            refine tree_p rfl rfl rfl rfl _ rfl (by simp) (fun K hK => ?_)
            apply Exists.intro
            refine ⟨fun wq K' hK' => ?_, ?_⟩
            · go_wp2_with fail
              exact hK'
            go_simp
            refine hK _ ?_
            clear hK K
            refine tree_p rfl rfl rfl rfl _ rfl (by simp) (fun K hK => ?_)
            apply Exists.intro
            refine ⟨fun wq K' hK' => ?_, ?_⟩
            · go_wp2_with fail
              exact hK'
            go_simp
            refine hK _ ?_
            clear hK K
            refine tree_p rfl rfl rfl rfl _ rfl (by simp) (fun K hK => ?_)
            apply Exists.intro
            refine ⟨fun wq K' hK' => ?_, ?_⟩
            · go_wp2_with fail
              exact hK'
            go_simp
            refine hK _ ?_
            clear hK K
            refine tree_p rfl rfl rfl rfl _ rfl (by simp) (fun K hK => ?_)
            apply Exists.intro
            refine ⟨fun wq K' hK' => ?_, ?_⟩
            · go_wp2_with fail
              exact hK'
            go_simp
            refine hK _ ?_
            clear hK K
            refine tree_e0 (by kernel_rfl) rfl rfl (fun K hK => ?_)
            go_wp2_with fail
            refine (hset.out w3 _ (gr_trans hgw3 (World.grownBy.refl _ _)) (by omega)).mono ?_
            rintro e w4 ⟨rfl, hR4⟩
            replace hR4 := hide hR4
            go_wp2_with fail
            try go_simp
            refine hK _ _ trivial ?_
            clear hK K
            refine tree_done ?_
            go_wp2_with fail
            (go_roundw; (case rel => exact ⟨n' + 1, m, show m + (n' + 1) = O.wide from by have := hmn.out; omega, by rw [hS1e.out], by go_num, hR4.out⟩); (case measure => simp [intOf]))

end Go.Proofs.YtgcpegjggakemaaGreatDoor

namespace Go.Bl
open Go
/-- the least of a value over the first k points (k above 0) -/
def lowK (g : Pt → Int) (l : List Pt) : Nat → Int
  | 0 => g (l.getD 0 default)
  | k + 1 => min (lowK g l k) (g (l.getD k default))

def hiK (g : Pt → Int) (l : List Pt) : Nat → Int
  | 0 => g (l.getD 0 default)
  | k + 1 => max (hiK g l k) (g (l.getD k default))

theorem lowK_spec (g : Pt → Int) {l : List Pt} (h0 : 0 < l.length) : ∀ k, k ≤ l.length → (∀ i, i < k → lowK g l k ≤ g (l.getD i default)) ∧ ∃ i, i < l.length ∧ lowK g l k = g (l.getD i default)
  | 0, _ => ⟨fun i h => by omega, 0, h0, rfl⟩
  | k + 1, hk => by
    obtain ⟨h1, i, hi, h2⟩ := lowK_spec g h0 k (by omega)
    simp only [lowK]
    refine ⟨fun j hj => ?_, ?_⟩
    · by_cases e : j = k
      · subst e; omega
      · have := h1 j (by omega); omega
    · by_cases h : lowK g l k ≤ g (l.getD k default)
      · exact ⟨i, hi, by rw [Int.min_eq_left h, h2]⟩
      · exact ⟨k, by omega, by rw [Int.min_eq_right (by omega)]⟩

theorem hiK_spec (g : Pt → Int) {l : List Pt} (h0 : 0 < l.length) : ∀ k, k ≤ l.length → (∀ i, i < k → g (l.getD i default) ≤ hiK g l k) ∧ ∃ i, i < l.length ∧ hiK g l k = g (l.getD i default)
  | 0, _ => ⟨fun i h => by omega, 0, h0, rfl⟩
  | k + 1, hk => by
    obtain ⟨h1, i, hi, h2⟩ := hiK_spec g h0 k (by omega)
    simp only [hiK]
    refine ⟨fun j hj => ?_, ?_⟩
    · by_cases e : j = k
      · subst e; omega
      · have := h1 j (by omega); omega
    · by_cases h : g (l.getD k default) ≤ hiK g l k
      · exact ⟨i, hi, by rw [Int.max_eq_left h, h2]⟩
      · exact ⟨k, by omega, by rw [Int.max_eq_right (by omega)]⟩

def lowF (g : Pt → Int) (l : List Pt) : Int := lowK g l l.length

def hiF (g : Pt → Int) (l : List Pt) : Int := hiK g l l.length

theorem lowF_le (g : Pt → Int) {l : List Pt} {p : Pt} (h : p ∈ l) : lowF g l ≤ g p := by
  obtain ⟨i, hi, rfl⟩ := List.getElem_of_mem h
  have := (lowK_spec g (show 0 < l.length by omega) l.length (Nat.le_refl _)).1 i hi
  simpa [lowF, List.getD, hi] using this

theorem le_hiF (g : Pt → Int) {l : List Pt} {p : Pt} (h : p ∈ l) : g p ≤ hiF g l := by
  obtain ⟨i, hi, rfl⟩ := List.getElem_of_mem h
  have := (hiK_spec g (show 0 < l.length by omega) l.length (Nat.le_refl _)).1 i hi
  simpa [hiF, List.getD, hi] using this

theorem lowF_mem (g : Pt → Int) {l : List Pt} (h0 : 0 < l.length) : ∃ p ∈ l, lowF g l = g p := by
  obtain ⟨i, hi, h⟩ := (lowK_spec g h0 l.length (Nat.le_refl _)).2
  exact ⟨l[i], List.getElem_mem hi, by simpa [lowF, List.getD, hi] using h⟩

theorem hiF_mem (g : Pt → Int) {l : List Pt} (h0 : 0 < l.length) : ∃ p ∈ l, hiF g l = g p := by
  obtain ⟨i, hi, h⟩ := (hiK_spec g h0 l.length (Nat.le_refl _)).2
  exact ⟨l[i], List.getElem_mem hi, by simpa [hiF, List.getD, hi] using h⟩
/-- the columns and rows of corners -/
def wideF (g : Pt → Int) (l : List Pt) (step : Int) : Int := hiF g l / step - lowF g l / step + 1

def bigB (l : List Pt) (step : Int) : Bool := decide (200 < wideF Pt.x l step) || decide (200 < wideF Pt.y l step)

theorem wide_pos (g : Pt → Int) {l : List Pt} (h0 : 0 < l.length) {step : Int} (hs : 2 ≤ step) : 1 ≤ wideF g l step := by
  obtain ⟨p, hp, h1⟩ := lowF_mem g h0
  have h2 := le_hiF g hp
  have h3 := Int.ediv_le_ediv (show 0 < step by omega) (show lowF g l ≤ hiF g l by omega)
  unfold wideF; omega

theorem boxR_of {rs : List (List Pt)} (hne : ∀ r ∈ rs, 0 < r.length) {step : Int} (hs : 2 ≤ step) :
    BoxR rs step (lowF Pt.x rs.flatten / step) (lowF Pt.y rs.flatten / step) (hiF Pt.x rs.flatten / step) (hiF Pt.y rs.flatten / step) := by
  have hm : ∀ r ∈ rs, ∀ q ∈ r, q ∈ rs.flatten := fun r hr q hq => List.mem_flatten.2 ⟨r, hr, hq⟩
  refine ⟨hne, hs, fun r hr q hq => ⟨Int.ediv_le_ediv (by omega) (lowF_le Pt.x (hm r hr q hq)), Int.ediv_le_ediv (by omega) (le_hiF Pt.x (hm r hr q hq))⟩, fun r hr q hq => ⟨Int.ediv_le_ediv (by omega) (lowF_le Pt.y (hm r hr q hq)), Int.ediv_le_ediv (by omega) (le_hiF Pt.y (hm r hr q hq))⟩⟩
/-- the cells of a region -/
def fillS (rs : List (List Pt)) (step : Int) (x y : Int) : Bool := covB rs ⟨cenI step x, cenI step y⟩

/-- the first k rows of a grid -/
def rowsT (O : Grd) (L : List Sid) (k : Nat) (u v : Int) : Bool :=
  (decide (O.y ≤ v) && decide (v < O.y + k)) && inCol O u && (L.any (fun s => hitS s (cenI O.step v) (cenI O.step u)) || parL (fun s => oddS s (cenI O.step v) (cenI O.step u)) L)

theorem rows_zero (O : Grd) (L : List Sid) (u v : Int) : rowsT O L 0 u v = false := by
  unfold rowsT
  by_cases h1 : O.y ≤ v
  · have h2 : ¬ v < O.y + ((0 : Nat) : Int) := by omega
    rw [decide_eq_false h2]; simp
  · rw [decide_eq_false h1]; simp

theorem rows_next (O : Grd) (L : List Sid) (k : Nat) (u v : Int) : rowsT O L (k + 1) u v = (rowsT O L k u v || rowT O (O.y + k) L u v) := by
  unfold rowsT rowT
  by_cases hv : v = O.y + (k : Int)
  · rw [← hv]
    have h1 : O.y ≤ v := by omega
    have h2 : v < O.y + ((k + 1 : Nat) : Int) := by omega
    have h3 : ¬ v < v := by omega
    rw [decide_eq_true h1, decide_eq_true h2, decide_eq_false h3]
    simp
  · rw [decide_eq_false hv]
    have e : decide (v < O.y + ((k + 1 : Nat) : Int)) = decide (v < O.y + (k : Int)) := by
      rw [decide_eq_decide]; omega
    rw [e]; simp
/-- all rows: the cells of the region -/
theorem rows_all {O : Grd} {rs : List (List Pt)} (hb : BoxR rs O.step O.x O.y (O.x + O.wide - 1) (O.y + O.high - 1)) (u v : Int) : rowsT O (sidesK rs rs.length) O.high u v = fillS rs O.step u v := by
  unfold rowsT fillS
  rw [cov_fill]
  by_cases h : O.x ≤ u ∧ u ≤ O.x + O.wide - 1 ∧ O.y ≤ v ∧ v ≤ O.y + O.high - 1
  · have h1 : inCol O u = true := by simp [inCol]; omega
    rw [h1, decide_eq_true (show O.y ≤ v by omega), decide_eq_true (show v < O.y + (O.high : Int) by omega)]
    rfl
  · rw [hb.out h, Bool.and_false]
/-- what is wrong with filling -/
def fillE (rf : Int) (rs : List (List Pt)) (step : Int) : Int := if rf ≠ 0 then rf else if stepB step then 1 else if rs.flatten.length ≠ 0 ∧ bigB rs.flatten step = true then 12 else 0

end Go.Bl

namespace Go.Bl
open Go
/-- what is wrong with a question -/
def hasE (c : Cel) (p : Pt) : Int := if cellsF c ≠ 0 then cellsF c else if farP p then 1 else 0

def hasV (c : Cel) (p : Pt) : Bool := decide (hasE c p = 0) && onC c (p.x / c.step) (p.y / c.step)

end Go.Bl
namespace Go.Proofs.YtgcpegjggakemaaGreatDoor
open Go Go.RowKit Go.Bl

theorem floorG_any (n d : Int) (w : World) (hn : -4000000000000000000 ≤ n ∧ n ≤ 4000000000000000000) (hd : 1 ≤ d ∧ d ≤ 4000000000000000000) :
    Calls Tryz.prog 66 #[.int .i64 n, .int .i64 d] w fun e w' => e = .returned (.int .i64 (n / d)) ∧ w.grownBy w' none :=
  (floor_any n d w hn hd).mono fun e w' h => ⟨h.1, by rw [← h.2]; exact World.grownBy.refl _ _⟩

set_option maxHeartbeats 4000000 in
set_option maxRecDepth 100000 in
theorem has_any (c : Cel) (A : Option Addr) (n cc : Nat) (p : Pt) (w : World) (ha : CArg w c A n) :
    Calls Tryz.prog 17 #[.agg #[.int .i64 (c).step, .int .i64 (c).x, .int .i64 (c).y, .slice A n cc], .agg #[.int .i64 p.x, .int .i64 p.y]] w fun e w' => e = .returned (.tuple #[.bool (hasV c p), .int .i64 (hasE c p)]) ∧ w.grownBy w' none := by
  have hCk := hide (fun W (h : w.grownBy W none) => checkArg_any c A n cc W (ha.pure h))
  have hfar := hide (fun W => isFar_any p W)
  obtain ⟨F, hF⟩ : ∃ F, F = cellsF c := ⟨_, rfl⟩
  have hE : Hid (hasE c p = if F ≠ 0 then F else if farP p then 1 else 0) := by rw [Hid, hasE, hF]
  have hV : Hid (hasV c p = (decide (hasE c p = 0) && onC c (p.x / c.step) (p.y / c.step))) := rfl
  rw [← hF] at hCk
  rcases hz : (F == 0) with _ | _
  · have hne : F ≠ 0 := by simpa using hz
    have hE' : Hid (hasE c p = F) := by rw [Hid, hE.out, if_pos hne]
    have hV' : Hid (hasV c p = false) := by rw [Hid, hV.out, hE'.out, decide_eq_false hne]; rfl
    have hz' : (F != 0) = true := by simp [hne]
    clear hE hF hV hne
    go_enter Tryz.func17, Tryz.ntmps17
    go_upto_region 1 with fail
    obtain ⟨w2, hw2⟩ : ∃ x, x = ((w).alloc (.cells [.int .i64 (c).step, .int .i64 (c).x, .int .i64 (c).y, .slice A n cc].toArray 34)).alloc (.cells [.int .i64 p.x, .int .i64 p.y].toArray 30) := ⟨_, rfl⟩
    have hba2 : Box w2 (w).heap.size 34 [.int .i64 (c).step, .int .i64 (c).x, .int .i64 (c).y, .slice A n cc] := by
      rw [hw2]; exact (Box.new (w) [.int .i64 (c).step, .int .i64 (c).x, .int .i64 (c).y, .slice A n cc] 34).pure (gr_alloc (World.grownBy.refl _ _) _)
    have hbb2 : Box w2 ((w).heap.size + 1) 30 [.int .i64 p.x, .int .i64 p.y] := by
      have h := Box.new ((w).alloc (.cells [.int .i64 (c).step, .int .i64 (c).x, .int .i64 (c).y, .slice A n cc].toArray 34)) [.int .i64 p.x, .int .i64 p.y] 30
      rw [show ((w).alloc (.cells [.int .i64 (c).step, .int .i64 (c).x, .int .i64 (c).y, .slice A n cc].toArray 34)).heap.size = (w).heap.size + 1 by simp] at h
      rw [hw2]; exact h
    have hg2 : (w).grownBy w2 none := by rw [hw2]; exact (by repeat (first | exact World.grownBy.refl _ _ | assumption | refine gr_alloc ?_ _ | (apply gr_tail; assumption) | refine gr_drewN ?_ _ | refine gr_drew ?_))
    rw [← hw2]
    clear hw2
    obtain ⟨xb2, hxb2⟩ : ∃ x, x = (w).heap.size + 1 := ⟨_, rfl⟩
    rw [← hxb2] at hbb2 ⊢
    obtain ⟨xa2, hxa2⟩ : ∃ x, x = (w).heap.size := ⟨_, rfl⟩
    rw [← hxa2] at hba2 ⊢
    have hxn2 : xa2 ≠ xb2 := by omega
    replace hxa2 : (w).heap.size ≤ xa2 := by omega
    replace hxb2 : (w).heap.size ≤ xb2 := by omega
    obtain ⟨⟨a0, -⟩, ⟨a1, -⟩, ⟨a2, -⟩, ⟨a3, -⟩⟩ := box4_c hba2
    go_wp2_with fail
    refine (hCk.out w2 hg2).mono ?_
    rintro e w3 ⟨rfl, hg3⟩
    go_wp2_with fail
    rw [hE'.out, hV'.out]
    go_ret2
    exact ⟨rfl, hg2.t hg3⟩
  have hF0 : F = 0 := by simpa using hz
  subst hF0
  clear hz
  have hok := cells_ok.1 hF.symm
  clear hF
  rcases hfp : farP p with _ | _
  rotate_left
  · have hE' : Hid (hasE c p = 1) := by rw [Hid, hE.out, if_neg (by simp), hfp]; rfl
    have hV' : Hid (hasV c p = false) := by rw [Hid, hV.out, hE'.out]; rfl
    rw [hfp] at hfar
    clear hE hV hok
    go_enter Tryz.func17, Tryz.ntmps17
    go_upto_region 1 with fail
    obtain ⟨w2, hw2⟩ : ∃ x, x = ((w).alloc (.cells [.int .i64 (c).step, .int .i64 (c).x, .int .i64 (c).y, .slice A n cc].toArray 34)).alloc (.cells [.int .i64 p.x, .int .i64 p.y].toArray 30) := ⟨_, rfl⟩
    have hba2 : Box w2 (w).heap.size 34 [.int .i64 (c).step, .int .i64 (c).x, .int .i64 (c).y, .slice A n cc] := by
      rw [hw2]; exact (Box.new (w) [.int .i64 (c).step, .int .i64 (c).x, .int .i64 (c).y, .slice A n cc] 34).pure (gr_alloc (World.grownBy.refl _ _) _)
    have hbb2 : Box w2 ((w).heap.size + 1) 30 [.int .i64 p.x, .int .i64 p.y] := by
      have h := Box.new ((w).alloc (.cells [.int .i64 (c).step, .int .i64 (c).x, .int .i64 (c).y, .slice A n cc].toArray 34)) [.int .i64 p.x, .int .i64 p.y] 30
      rw [show ((w).alloc (.cells [.int .i64 (c).step, .int .i64 (c).x, .int .i64 (c).y, .slice A n cc].toArray 34)).heap.size = (w).heap.size + 1 by simp] at h
      rw [hw2]; exact h
    have hg2 : (w).grownBy w2 none := by rw [hw2]; exact (by repeat (first | exact World.grownBy.refl _ _ | assumption | refine gr_alloc ?_ _ | (apply gr_tail; assumption) | refine gr_drewN ?_ _ | refine gr_drew ?_))
    rw [← hw2]
    clear hw2
    obtain ⟨xb2, hxb2⟩ : ∃ x, x = (w).heap.size + 1 := ⟨_, rfl⟩
    rw [← hxb2] at hbb2 ⊢
    obtain ⟨xa2, hxa2⟩ : ∃ x, x = (w).heap.size := ⟨_, rfl⟩
    rw [← hxa2] at hba2 ⊢
    have hxn2 : xa2 ≠ xb2 := by omega
    replace hxa2 : (w).heap.size ≤ xa2 := by omega
    replace hxb2 : (w).heap.size ≤ xb2 := by omega
    obtain ⟨⟨a0, -⟩, ⟨a1, -⟩, ⟨a2, -⟩, ⟨a3, -⟩⟩ := box4_c hba2
    go_wp2_with fail
    refine (hCk.out w2 hg2).mono ?_
    rintro e w3 ⟨rfl, hg3⟩
    replace hbb2 := hbb2.pure hg3
    obtain ⟨b0, -⟩ := hbb2.c 0 rfl
    obtain ⟨b1, -⟩ := hbb2.c 1 rfl
    replace hg2 := hg2.t hg3
    clear a0 a1 a2 a3 hg3 hCk
    go_wp2_with fail
    refine (hfar.out w3).mono ?_
    rintro e w4 ⟨rfl, hg4⟩
    go_wp2_with fail
    rw [hE'.out, hV'.out]
    go_ret2
    exact ⟨rfl, hg2.t hg4⟩
  have hpb : (-100000 ≤ p.x ∧ p.x ≤ 100000) ∧ -100000 ≤ p.y ∧ p.y ≤ 100000 := by
    simp only [farP, outB, Bool.or_eq_false_iff, decide_eq_false_iff_not] at hfp
    omega
  have hE' : Hid (hasE c p = 0) := by rw [Hid, hE.out, if_neg (by simp), hfp]; rfl
  have hV' : Hid (hasV c p = onC c (p.x / c.step) (p.y / c.step)) := by rw [Hid, hV.out, hE'.out]; rfl
  rw [hfp] at hfar
  have hsp := step_pos hok.step
  have hGo := hide (fun W (h : w.grownBy W none) => gridArg_any c A n cc W (ha.pure h) hok)
  have hf1 := hide (fun W => floorG_any p.x c.step W (by omega) (by omega))
  have hf2 := hide (fun W => floorG_any p.y c.step W (by omega) (by omega))
  have hd1 := div_bd hsp.1 hpb.1.1 hpb.1.2 (by omega)
  have hd2 := div_bd hsp.1 hpb.2.1 hpb.2.2 (by omega)
  have hat := hide (fun W g b x y (h : GridAt W g b (gridOf c)) h1 h2 => at_any g b (gridOf c) x y W h h1 h2)
  have hgat := hide (fun x y => gridOf_at (x := x) (y := y) hok)
  generalize p.x / c.step = qx at *
  generalize p.y / c.step = qy at *
  clear hE hV hok hsp ha hpb
  go_enter Tryz.func17, Tryz.ntmps17
  go_upto_region 1 with fail
  obtain ⟨w2, hw2⟩ : ∃ x, x = ((w).alloc (.cells [.int .i64 (c).step, .int .i64 (c).x, .int .i64 (c).y, .slice A n cc].toArray 34)).alloc (.cells [.int .i64 p.x, .int .i64 p.y].toArray 30) := ⟨_, rfl⟩
  have hba2 : Box w2 (w).heap.size 34 [.int .i64 (c).step, .int .i64 (c).x, .int .i64 (c).y, .slice A n cc] := by
    rw [hw2]; exact (Box.new (w) [.int .i64 (c).step, .int .i64 (c).x, .int .i64 (c).y, .slice A n cc] 34).pure (gr_alloc (World.grownBy.refl _ _) _)
  have hbb2 : Box w2 ((w).heap.size + 1) 30 [.int .i64 p.x, .int .i64 p.y] := by
    have h := Box.new ((w).alloc (.cells [.int .i64 (c).step, .int .i64 (c).x, .int .i64 (c).y, .slice A n cc].toArray 34)) [.int .i64 p.x, .int .i64 p.y] 30
    rw [show ((w).alloc (.cells [.int .i64 (c).step, .int .i64 (c).x, .int .i64 (c).y, .slice A n cc].toArray 34)).heap.size = (w).heap.size + 1 by simp] at h
    rw [hw2]; exact h
  have hg2 : (w).grownBy w2 none := by rw [hw2]; exact (by repeat (first | exact World.grownBy.refl _ _ | assumption | refine gr_alloc ?_ _ | (apply gr_tail; assumption) | refine gr_drewN ?_ _ | refine gr_drew ?_))
  rw [← hw2]
  clear hw2
  obtain ⟨xb2, hxb2⟩ : ∃ x, x = (w).heap.size + 1 := ⟨_, rfl⟩
  rw [← hxb2] at hbb2 ⊢
  obtain ⟨xa2, hxa2⟩ : ∃ x, x = (w).heap.size := ⟨_, rfl⟩
  rw [← hxa2] at hba2 ⊢
  have hxn2 : xa2 ≠ xb2 := by omega
  replace hxa2 : (w).heap.size ≤ xa2 := by omega
  replace hxb2 : (w).heap.size ≤ xb2 := by omega
  obtain ⟨⟨a0, -⟩, ⟨a1, -⟩, ⟨a2, -⟩, ⟨a3, -⟩⟩ := box4_c hba2
  go_wp2_with fail
  refine (hCk.out w2 hg2).mono ?_
  rintro e w3 ⟨rfl, hg3⟩
  replace hba2 := hba2.pure hg3
  replace hbb2 := hbb2.pure hg3
  obtain ⟨b0, -⟩ := hbb2.c 0 rfl
  obtain ⟨b1, -⟩ := hbb2.c 1 rfl
  replace hg2 := hg2.t hg3
  clear a0 a1 a2 a3 hg3 hCk
  go_wp2_with fail
  refine (hfar.out w3).mono ?_
  rintro e w4 ⟨rfl, hg4⟩
  replace hba2 := hba2.pure hg4
  replace hbb2 := hbb2.pure hg4
  replace hg2 := hg2.t hg4
  clear b0 b1 hg4 hfar
  obtain ⟨b0, -⟩ := hbb2.c 0 rfl
  obtain ⟨b1, -⟩ := hbb2.c 1 rfl
  obtain ⟨⟨a0, -⟩, ⟨a1, -⟩, ⟨a2, -⟩, ⟨a3, -⟩⟩ := box4_c hba2
  go_upto_region 6 with fail
  clear hba2 hbb2
  refine wp_region_tree (fun wx => w4.grownBy wx none) [1, 0, 2, 1, 2, 1, 0, 2, 1, 2, 1, 0, 0, 2, 2] (.bl 0 (.bl 2 (.bl 3 (.bl 4 (.bl 5 (.bl 7 (.bl 8 (.bl 9 (.bl 10 (.ef 1 (.ef 6 (.ef 11 (.ef 12 (.bl 13 (.bl 14 .done))))))))))))))) (by kernel_rfl) (by kernel_rfl) (gr_drew (World.grownBy.refl _ _)) ?_
  obtain ⟨W1, hW1⟩ : ∃ x, x = (w4).drew := ⟨_, rfl⟩
  rw [← hW1]
  have hgW1 : (w4).grownBy W1 none := by rw [hW1]; exact gr_drew (World.grownBy.refl _ _)
  clear hW1
  refine tree_b rfl rfl rfl rfl _ rfl (by simp) (fun K hK => ?_)
  apply Exists.intro
  refine ⟨fun wq hq K' hK' => ?_, ?_⟩
  · have q0 := hq.k a0
    have q1 := hq.k a1
    have q2 := hq.k a2
    have q3 := hq.k a3
    have r0 := hq.k b0
    have r1 := hq.k b1
    go_wp2_with fail
    exact hK'
  go_simp
  refine hK _ ?_
  clear hK K
  refine tree_p rfl rfl rfl rfl _ rfl (by simp) (fun K hK => ?_)
  apply Exists.intro
  refine ⟨fun wq K' hK' => ?_, ?_⟩
  · go_wp2_with fail
    exact hK'
  go_simp
  refine hK _ ?_
  clear hK K
  refine tree_b rfl rfl rfl rfl _ rfl (by simp) (fun K hK => ?_)
  apply Exists.intro
  refine ⟨fun wq hq K' hK' => ?_, ?_⟩
  · have q0 := hq.k a0
    have q1 := hq.k a1
    have q2 := hq.k a2
    have q3 := hq.k a3
    have r0 := hq.k b0
    have r1 := hq.k b1
    go_wp2_with fail
    exact hK'
  go_simp
  refine hK _ ?_
  clear hK K
  refine tree_p rfl rfl rfl rfl _ rfl (by simp) (fun K hK => ?_)
  apply Exists.intro
  refine ⟨fun wq K' hK' => ?_, ?_⟩
  · go_wp2_with fail
    exact hK'
  go_simp
  refine hK _ ?_
  clear hK K
  refine tree_b rfl rfl rfl rfl _ rfl (by simp) (fun K hK => ?_)
  apply Exists.intro
  refine ⟨fun wq hq K' hK' => ?_, ?_⟩
  · have q0 := hq.k a0
    have q1 := hq.k a1
    have q2 := hq.k a2
    have q3 := hq.k a3
    have r0 := hq.k b0
    have r1 := hq.k b1
    go_wp2_with fail
    exact hK'
  go_simp
  refine hK _ ?_
  clear hK K
  refine tree_p rfl rfl rfl rfl _ rfl (by simp) (fun K hK => ?_)
  apply Exists.intro
  refine ⟨fun wq K' hK' => ?_, ?_⟩
  · go_wp2_with fail
    exact hK'
  go_simp
  refine hK _ ?_
  clear hK K
  refine tree_b rfl rfl rfl rfl _ rfl (by simp) (fun K hK => ?_)
  apply Exists.intro
  refine ⟨fun wq hq K' hK' => ?_, ?_⟩
  · have q0 := hq.k a0
    have q1 := hq.k a1
    have q2 := hq.k a2
    have q3 := hq.k a3
    have r0 := hq.k b0
    have r1 := hq.k b1
    go_wp2_with fail
    exact hK'
  go_simp
  refine hK _ ?_
  clear hK K
  refine tree_p rfl rfl rfl rfl _ rfl (by simp) (fun K hK => ?_)
  apply Exists.intro
  refine ⟨fun wq K' hK' => ?_, ?_⟩
  · go_wp2_with fail
    exact hK'
  go_simp
  refine hK _ ?_
  clear hK K
  refine tree_b rfl rfl rfl rfl _ rfl (by simp) (fun K hK => ?_)
  apply Exists.intro
  refine ⟨fun wq hq K' hK' => ?_, ?_⟩
  · have q0 := hq.k a0
    have q1 := hq.k a1
    have q2 := hq.k a2
    have q3 := hq.k a3
    have r0 := hq.k b0
    have r1 := hq.k b1
    go_wp2_with fail
    exact hK'
  go_simp
  refine hK _ ?_
  clear hK K
  refine tree_e rfl rfl (fun K hK => ?_)
  go_wp2_with fail
  refine (hGo.out W1 (hg2.t (gr_trans hgW1 (World.grownBy.refl _ _)))).mono ?_
  rintro e u1 ⟨g, b, rfl, hG, hg1, hgg, hgb⟩
  go_wp2_with fail
  try go_simp
  refine hK _ _ (gr_trans hgW1 hg1) ?_
  clear hK K
  refine tree_e rfl rfl (fun K hK => ?_)
  go_wp2_with fail
  refine (hf1.out u1).mono ?_
  rintro e u6 ⟨rfl, hg6⟩
  go_wp2_with fail
  try go_simp
  refine hK _ _ (gr_trans (gr_trans hgW1 hg1) hg6) ?_
  clear hK K
  refine tree_e0 (by kernel_rfl) rfl rfl (fun K hK => ?_)
  go_wp2_with fail
  refine (hf2.out u6).mono ?_
  rintro e u11 ⟨rfl, hg11⟩
  go_wp2_with fail
  try go_simp
  refine hK _ _ trivial ?_
  clear hK K
  refine tree_e0 (by kernel_rfl) rfl rfl (fun K hK => ?_)
  go_wp2_with fail
  refine (hat.out u11 g b qx qy (hG.pure (gr_trans hg6 hg11)) (by omega) (by omega)).mono ?_
  rintro e u12 ⟨rfl, hg12⟩
  rw [hgat.out]
  go_wp2_with fail
  try go_simp
  refine hK _ _ trivial ?_
  clear hK K
  refine tree_p rfl rfl rfl rfl _ rfl (by simp) (fun K hK => ?_)
  apply Exists.intro
  refine ⟨fun wq K' hK' => ?_, ?_⟩
  · go_wp2_with fail
    exact hK'
  go_simp
  refine hK _ ?_
  clear hK K
  refine tree_p rfl rfl rfl rfl _ rfl (by simp) (fun K hK => ?_)
  apply Exists.intro
  refine ⟨fun wq K' hK' => ?_, ?_⟩
  · go_wp2_with fail
    exact hK'
  go_simp
  refine hK _ ?_
  clear hK K
  refine tree_done ?_
  go_wp2_with fail
  rw [hE'.out, hV'.out]
  go_ret2
  exact ⟨rfl, hg2.t (gr_trans hgW1 (gr_trans (gr_trans (gr_trans hg1 hg6) hg11) hg12))⟩

end Go.Proofs.YtgcpegjggakemaaGreatDoor
