/- Contracts of functions that this seat's laws reach, each: what one call returns and what it leaves in memory; no condition beyond each theorem's own hypotheses. -/
import Derived.Test.YtejmbaiioblfeaaGreatDoorZqPathA
import Derived.Test.YtejmbaiioblfeaaGreatDoorZqNestCat
import Derived.Test.YtejmbaiioblfeaaGreatDoorZqJm
set_option linter.unusedVariables false
set_option linter.unusedSimpArgs false
namespace Go.Bl
open Go

def bdP (p : Pt) : Prop := (-100000 ≤ p.x ∧ p.x ≤ 100000) ∧ -100000 ≤ p.y ∧ p.y ≤ 100000

def turnP (a b c : Pt) : Int := (b.x - a.x) * (c.y - a.y) - (b.y - a.y) * (c.x - a.x)

def apartI (a b c d : Int) : Bool := decide (max a b < min c d) || decide (max c d < min a b)

def acrossB (m n : Int) : Bool := decide (min m n ≤ 0) && decide (max m n ≥ 0)
/-- the program's test of two ways -/
def meetM (a b c d : Pt) : Bool := !(apartI a.x b.x c.x d.x || apartI a.y b.y c.y d.y) && (acrossB (turnP a b c) (turnP a b d) && acrossB (turnP c d a) (turnP c d b))

def foldB (k a b : Pt) : Bool := decide (turnP k a b = 0) && decide ((a.x - k.x) * (b.x - k.x) + (a.y - k.y) * (b.y - k.y) > 0)

theorem mulm_bd {a b m n : Int} (ha : -m ≤ a ∧ a ≤ m) (hb : -n ≤ b ∧ b ≤ n) (hm : 0 ≤ m) : -(m * n) ≤ a * b ∧ a * b ≤ m * n := by
  have hn : 0 ≤ n := by omega
  rcases Int.le_total 0 a with h | h <;> rcases Int.le_total 0 b with k | k
  · have h1 := Int.mul_nonneg h k
    have h2 := Int.mul_le_mul ha.2 hb.2 k hm
    have h3 := Int.mul_nonneg hm hn
    omega
  · have h1 := Int.mul_nonneg h (show 0 ≤ -b by omega)
    have h2 := Int.mul_le_mul ha.2 (show -b ≤ n by omega) (by omega) hm
    have h3 := Int.mul_nonneg hm hn
    rw [Int.mul_neg] at h1 h2
    omega
  · have h1 := Int.mul_nonneg (show 0 ≤ -a by omega) k
    have h2 := Int.mul_le_mul (show -a ≤ m by omega) hb.2 k hm
    have h3 := Int.mul_nonneg hm hn
    rw [Int.neg_mul] at h1 h2
    omega
  · have h1 := Int.mul_nonneg (show 0 ≤ -a by omega) (show 0 ≤ -b by omega)
    have h2 := Int.mul_le_mul (show -a ≤ m by omega) (show -b ≤ n by omega) (by omega) hm
    have h3 := Int.mul_nonneg hm hn
    rw [Int.neg_mul_neg] at h1 h2
    omega

theorem mul_pt {a b : Int} (ha : -200000 ≤ a ∧ a ≤ 200000) (hb : -200000 ≤ b ∧ b ≤ 200000) : -40000000000 ≤ a * b ∧ a * b ≤ 40000000000 := mulm_bd (m := 200000) (n := 200000) ha hb (by decide)

end Go.Bl
namespace Go.Proofs.YtejmbaiioblfeaaGreatDoor
open Go Go.RowKit Go.Bl

set_option maxHeartbeats 800000 in
theorem turn_any (a b c : Pt) (w : World) (ha : bdP a) (hb : bdP b) (hc : bdP c) :
    Calls Tryz.prog 85 #[(.agg #[.int .i64 (a).x, .int .i64 (a).y]), (.agg #[.int .i64 (b).x, .int .i64 (b).y]), (.agg #[.int .i64 (c).x, .int .i64 (c).y])] w fun e w' => e = .returned (.int .i64 (turnP a b c)) ∧ w.grownBy w' none := by
  unfold bdP at ha hb hc
  have h1 := mul_pt (a := b.x - a.x) (b := c.y - a.y) (by omega) (by omega)
  have h2 := mul_pt (a := b.y - a.y) (b := c.x - a.x) (by omega) (by omega)
  have hV : Hid (turnP a b c = (b.x - a.x) * (c.y - a.y) - (b.y - a.y) * (c.x - a.x)) := rfl
  go_enter Tryz.func85, Tryz.ntmps85
  go_wp2_with fail
  go_ret
  exact ⟨ret_int hV.out.symm, (by repeat (first | exact World.grownBy.refl _ _ | assumption | refine gr_alloc ?_ _ | (apply gr_tail; assumption) | refine gr_drewN ?_ _ | refine gr_drew ?_))⟩

set_option maxHeartbeats 800000 in
theorem apartG_any (a b c d : Int) (w : World) :
    Calls Tryz.prog 83 #[.int .i64 a, .int .i64 b, .int .i64 c, .int .i64 d] w fun e w' => e = .returned (.bool (apartI a b c d)) ∧ w.grownBy w' none := by
  go_enter Tryz.func83, Tryz.ntmps83
  go_wp2_with fail
  all_goals
    go_ret
    refine ⟨ret_bool ?_, (by repeat (first | exact World.grownBy.refl _ _ | assumption | refine gr_alloc ?_ _ | (apply gr_tail; assumption) | refine gr_drewN ?_ _ | refine gr_drew ?_))⟩
    rw [Bool.eq_iff_iff]
    simp [apartI]
    omega

set_option maxHeartbeats 800000 in
theorem across_any (m n : Int) (w : World) :
    Calls Tryz.prog 84 #[.int .i64 m, .int .i64 n] w fun e w' => e = .returned (.bool (acrossB m n)) ∧ w.grownBy w' none := by
  go_enter Tryz.func84, Tryz.ntmps84
  go_wp2_with fail
  all_goals
    go_ret
    refine ⟨ret_bool ?_, (by repeat (first | exact World.grownBy.refl _ _ | assumption | refine gr_alloc ?_ _ | (apply gr_tail; assumption) | refine gr_drewN ?_ _ | refine gr_drew ?_))⟩
    rw [Bool.eq_iff_iff]
    simp [acrossB]
    omega

set_option maxHeartbeats 4000000 in
set_option maxRecDepth 100000 in
theorem foldsBack_any (k a b : Pt) (w : World) (hk : bdP k) (ha : bdP a) (hb : bdP b) :
    Calls Tryz.prog 89 #[(.agg #[.int .i64 (k).x, .int .i64 (k).y]), (.agg #[.int .i64 (a).x, .int .i64 (a).y]), (.agg #[.int .i64 (b).x, .int .i64 (b).y])] w fun e w' => e = .returned (.bool (foldB k a b)) ∧ w.grownBy w' none := by
  have hT := hide fun w => turn_any k a b w hk ha hb
  have hV : Hid (foldB k a b = (decide (turnP k a b = 0) && decide ((a.x - k.x) * (b.x - k.x) + (a.y - k.y) * (b.y - k.y) > 0))) := rfl
  unfold bdP at ha hb hk
  have h1 := mul_pt (a := a.x - k.x) (b := b.x - k.x) (by omega) (by omega)
  have h2 := mul_pt (a := a.y - k.y) (b := b.y - k.y) (by omega) (by omega)
  generalize turnP k a b = t at *
  go_enter Tryz.func89, Tryz.ntmps89
  go_upto_region 1 with fail
  obtain ⟨W, hW⟩ : ∃ W, W = ((w.alloc (.cells #[.int .i64 k.x, .int .i64 k.y] 29)).alloc (.cells #[.int .i64 a.x, .int .i64 a.y] 29)).alloc (.cells #[.int .i64 b.x, .int .i64 b.y] 29) := ⟨_, rfl⟩
  have hgW : w.grownBy W none := by rw [hW]; exact (by repeat (first | exact World.grownBy.refl _ _ | assumption | refine gr_alloc ?_ _ | (apply gr_tail; assumption) | refine gr_drewN ?_ _ | refine gr_drew ?_))
  have k0 : W.cell? ⟨w.heap.size, 0, none⟩ = some (.int .i64 k.x) := by rw [hW]; go_simp
  have k1 : W.cell? ⟨w.heap.size, 1, none⟩ = some (.int .i64 k.y) := by rw [hW]; go_simp
  have a0 : W.cell? ⟨w.heap.size + 1, 0, none⟩ = some (.int .i64 a.x) := by rw [hW]; go_simp
  have a1 : W.cell? ⟨w.heap.size + 1, 1, none⟩ = some (.int .i64 a.y) := by rw [hW]; go_simp
  have b0 : W.cell? ⟨w.heap.size + 1 + 1, 0, none⟩ = some (.int .i64 b.x) := by rw [hW]; go_simp
  have b1 : W.cell? ⟨w.heap.size + 1 + 1, 1, none⟩ = some (.int .i64 b.y) := by rw [hW]; go_simp
  rw [← hW]
  clear hW
  go_wp2_with fail
  refine (hT.out _).mono ?_
  rintro e w1 ⟨rfl, hg1⟩
  replace k0 := hg1.k k0
  replace k1 := hg1.k k1
  replace a0 := hg1.k a0
  replace a1 := hg1.k a1
  replace b0 := hg1.k b0
  replace b1 := hg1.k b1
  rcases h0 : decide (t = 0) with _ | _
  · have hb : (t == 0) = false := by simpa using h0
    rw [h0] at hV
    clear h0
    go_wp2_with fail
    go_ret
    exact ⟨ret_bool (by rw [hV.out, Bool.false_and]), gr_trans hgW hg1⟩
  · have hb : (t == 0) = true := by simpa using h0
    rw [h0] at hV
    clear h0
    go_wp2_with fail
    go_ret
    exact ⟨ret_bool (by rw [hV.out, Bool.true_and]), gr_trans hgW hg1⟩

set_option maxHeartbeats 4000000 in
set_option maxRecDepth 100000 in
theorem meet_any (a b c d : Pt) (w : World) (ha : bdP a) (hb : bdP b) (hc : bdP c) (hd : bdP d) :
    Calls Tryz.prog 50 #[(.agg #[.int .i64 (a).x, .int .i64 (a).y]), (.agg #[.int .i64 (b).x, .int .i64 (b).y]), (.agg #[.int .i64 (c).x, .int .i64 (c).y]), (.agg #[.int .i64 (d).x, .int .i64 (d).y])] w fun e w' => e = .returned (.bool (meetM a b c d)) ∧ w.grownBy w' none := by
  have hT1 := hide fun w => turn_any a b c w ha hb hc
  have hT2 := hide fun w => turn_any a b d w ha hb hd
  have hT3 := hide fun w => turn_any c d a w hc hd ha
  have hT4 := hide fun w => turn_any c d b w hc hd hb
  have hV : Hid (meetM a b c d = (!(apartI a.x b.x c.x d.x || apartI a.y b.y c.y d.y) && (acrossB (turnP a b c) (turnP a b d) && acrossB (turnP c d a) (turnP c d b)))) := rfl
  have hP1 := hide (apartG_any a.x b.x c.x d.x)
  have hP2 := hide (apartG_any a.y b.y c.y d.y)
  have hX1 := hide (across_any (turnP a b c) (turnP a b d))
  have hX2 := hide (across_any (turnP c d a) (turnP c d b))
  generalize turnP a b c = t1 at *
  generalize turnP a b d = t2 at *
  generalize turnP c d a = t3 at *
  generalize turnP c d b = t4 at *
  generalize acrossB t1 t2 = x1 at *
  generalize acrossB t3 t4 = x2 at *
  generalize apartI a.x b.x c.x d.x = p1 at *
  generalize apartI a.y b.y c.y d.y = p2 at *
  clear ha hb hc hd
  go_enter Tryz.func50, Tryz.ntmps50
  go_upto_region 1 with fail
  obtain ⟨W, hW⟩ : ∃ W, W = (((w.alloc (.cells #[.int .i64 a.x, .int .i64 a.y] 29)).alloc (.cells #[.int .i64 b.x, .int .i64 b.y] 29)).alloc (.cells #[.int .i64 c.x, .int .i64 c.y] 29)).alloc (.cells #[.int .i64 d.x, .int .i64 d.y] 29) := ⟨_, rfl⟩
  have hgW : w.grownBy W none := by rw [hW]; exact (by repeat (first | exact World.grownBy.refl _ _ | assumption | refine gr_alloc ?_ _ | (apply gr_tail; assumption) | refine gr_drewN ?_ _ | refine gr_drew ?_))
  have a0 : W.cell? ⟨w.heap.size, 0, none⟩ = some (.int .i64 a.x) := by rw [hW]; go_simp
  have a1 : W.cell? ⟨w.heap.size, 1, none⟩ = some (.int .i64 a.y) := by rw [hW]; go_simp
  have b0 : W.cell? ⟨w.heap.size + 1, 0, none⟩ = some (.int .i64 b.x) := by rw [hW]; go_simp
  have b1 : W.cell? ⟨w.heap.size + 1, 1, none⟩ = some (.int .i64 b.y) := by rw [hW]; go_simp
  have c0 : W.cell? ⟨w.heap.size + 1 + 1, 0, none⟩ = some (.int .i64 c.x) := by rw [hW]; go_simp
  have c1 : W.cell? ⟨w.heap.size + 1 + 1, 1, none⟩ = some (.int .i64 c.y) := by rw [hW]; go_simp
  have d0 : W.cell? ⟨w.heap.size + 1 + 1 + 1, 0, none⟩ = some (.int .i64 d.x) := by rw [hW]; go_simp
  have d1 : W.cell? ⟨w.heap.size + 1 + 1 + 1, 1, none⟩ = some (.int .i64 d.y) := by rw [hW]; go_simp
  have hC : Hid (∀ wx, W.grownBy wx none → (wx.cell? ⟨w.heap.size, 0, none⟩ = some (.int .i64 a.x) ∧ wx.cell? ⟨w.heap.size, 1, none⟩ = some (.int .i64 a.y)) ∧ (wx.cell? ⟨w.heap.size + 1, 0, none⟩ = some (.int .i64 b.x) ∧ wx.cell? ⟨w.heap.size + 1, 1, none⟩ = some (.int .i64 b.y)) ∧ (wx.cell? ⟨w.heap.size + 1 + 1, 0, none⟩ = some (.int .i64 c.x) ∧ wx.cell? ⟨w.heap.size + 1 + 1, 1, none⟩ = some (.int .i64 c.y)) ∧ (wx.cell? ⟨w.heap.size + 1 + 1 + 1, 0, none⟩ = some (.int .i64 d.x) ∧ wx.cell? ⟨w.heap.size + 1 + 1 + 1, 1, none⟩ = some (.int .i64 d.y))) :=
    fun wx hg => ⟨⟨hg.k a0, hg.k a1⟩, ⟨hg.k b0, hg.k b1⟩, ⟨hg.k c0, hg.k c1⟩, hg.k d0, hg.k d1⟩
  rw [← hW]
  clear hW
  go_wp2_with fail
  refine (hP1.out _).mono ?_
  rintro e w1 ⟨rfl, hg1⟩
  obtain ⟨⟨a0, a1⟩, ⟨b0, b1⟩, ⟨c0, c1⟩, d0, d1⟩ := hC.out _ hg1
  cases p1 with
  | true =>
    go_wp2_with fail
    go_ret
    exact ⟨ret_bool (by rw [hV.out]; simp), gr_trans hgW hg1⟩
  | false =>
    go_wp2_with fail
    refine (hP2.out _).mono ?_
    rintro e w2 ⟨rfl, hg2⟩
    have hgW2 := gr_trans hg1 hg2
    clear a0 a1 b0 b1 c0 c1 d0 d1
    cases p2 with
    | true =>
      go_wp2_with fail
      go_ret
      exact ⟨ret_bool (by rw [hV.out]; simp), gr_trans hgW hgW2⟩
    | false =>
      obtain ⟨⟨a0, a1⟩, ⟨b0, b1⟩, ⟨c0, c1⟩, d0, d1⟩ := hC.out _ hgW2
      cases x1 with
      | false =>
        go_upto_region 4 with fail
        refine wp_region_tree (fun wx => W.grownBy wx none) [2, 1, 1, 1, 0, 1, 1, 1, 0, 0, 2, 2, 1, 1, 1, 0, 1, 1, 1, 0, 0, 2, 2] (.bl 0 (.bl 1 (.bl 2 (.bl 3 (.bl 5 (.bl 6 (.bl 7 (.ef 4 (.ef 8 (.ef 9 (.bl 10 (.bl 11 (.bl 12 (.bl 13 (.bl 14 (.bl 16 (.bl 17 (.bl 18 (.ef 15 (.ef 19 (.ef 20 (.bl 21 (.bl 22 .done))))))))))))))))))))))) (by kernel_rfl) (by kernel_rfl) (gr_drew hgW2) ?_
        obtain ⟨W1, hW1⟩ : ∃ x, x = (w2).drew := ⟨_, rfl⟩
        rw [← hW1]
        have hgW1 : (w2).grownBy W1 none := by rw [hW1]; exact gr_drew (World.grownBy.refl _ _)
        clear hW1
        replace hgW2 := gr_trans hgW2 hgW1
        refine tree_p rfl rfl rfl rfl _ rfl (by simp) (fun K hK => ?_)
        apply Exists.intro
        refine ⟨fun wq K' hK' => ?_, ?_⟩
        · go_wp2_with fail
          exact hK'
        go_simp
        refine hK _ ?_
        clear hK K
        refine tree_b rfl rfl rfl rfl _ rfl (by simp) (fun K hK => ?_)
        apply Exists.intro
        refine ⟨fun wq hq K' hK' => ?_, ?_⟩
        · obtain ⟨⟨a0, a1⟩, ⟨b0, b1⟩, ⟨c0, c1⟩, d0, d1⟩ := hC.out _ hq
          go_wp2_with fail
          exact hK'
        go_simp
        refine hK _ ?_
        clear hK K
        refine tree_b rfl rfl rfl rfl _ rfl (by simp) (fun K hK => ?_)
        apply Exists.intro
        refine ⟨fun wq hq K' hK' => ?_, ?_⟩
        · obtain ⟨⟨a0, a1⟩, ⟨b0, b1⟩, ⟨c0, c1⟩, d0, d1⟩ := hC.out _ hq
          go_wp2_with fail
          exact hK'
        go_simp
        refine hK _ ?_
        clear hK K
        refine tree_b rfl rfl rfl rfl _ rfl (by simp) (fun K hK => ?_)
        apply Exists.intro
        refine ⟨fun wq hq K' hK' => ?_, ?_⟩
        · obtain ⟨⟨a0, a1⟩, ⟨b0, b1⟩, ⟨c0, c1⟩, d0, d1⟩ := hC.out _ hq
          go_wp2_with fail
          exact hK'
        go_simp
        refine hK _ ?_
        clear hK K
        refine tree_b rfl rfl rfl rfl _ rfl (by simp) (fun K hK => ?_)
        apply Exists.intro
        refine ⟨fun wq hq K' hK' => ?_, ?_⟩
        · obtain ⟨⟨a0, a1⟩, ⟨b0, b1⟩, ⟨c0, c1⟩, d0, d1⟩ := hC.out _ hq
          go_wp2_with fail
          exact hK'
        go_simp
        refine hK _ ?_
        clear hK K
        refine tree_b rfl rfl rfl rfl _ rfl (by simp) (fun K hK => ?_)
        apply Exists.intro
        refine ⟨fun wq hq K' hK' => ?_, ?_⟩
        · obtain ⟨⟨a0, a1⟩, ⟨b0, b1⟩, ⟨c0, c1⟩, d0, d1⟩ := hC.out _ hq
          go_wp2_with fail
          exact hK'
        go_simp
        refine hK _ ?_
        clear hK K
        refine tree_b rfl rfl rfl rfl _ rfl (by simp) (fun K hK => ?_)
        apply Exists.intro
        refine ⟨fun wq hq K' hK' => ?_, ?_⟩
        · obtain ⟨⟨a0, a1⟩, ⟨b0, b1⟩, ⟨c0, c1⟩, d0, d1⟩ := hC.out _ hq
          go_wp2_with fail
          exact hK'
        go_simp
        refine hK _ ?_
        clear hK K
        refine tree_e rfl rfl (fun K hK => ?_)
        go_wp2_with fail
        refine (hT1.out _).mono ?_
        rintro e w4 ⟨rfl, hg4⟩
        replace hgW2 := gr_trans hgW2 hg4
        go_wp2_with fail
        try go_simp
        refine hK _ _ (hgW2) ?_
        clear hK K
        refine tree_e rfl rfl (fun K hK => ?_)
        go_wp2_with fail
        refine (hT2.out _).mono ?_
        rintro e w8 ⟨rfl, hg8⟩
        replace hgW2 := gr_trans hgW2 hg8
        go_wp2_with fail
        try go_simp
        refine hK _ _ (hgW2) ?_
        clear hK K
        refine tree_e rfl rfl (fun K hK => ?_)
        go_wp2_with fail
        refine (hX1.out _).mono ?_
        rintro e w9 ⟨rfl, hg9⟩
        replace hgW2 := gr_trans hgW2 hg9
        go_wp2_with fail
        try go_simp
        refine hK _ _ (hgW2) ?_
        clear hK K
        refine tree_p rfl rfl rfl rfl _ rfl (by simp) (fun K hK => ?_)
        apply Exists.intro
        refine ⟨fun wq K' hK' => ?_, ?_⟩
        · go_wp2_with fail
          exact hK'
        go_simp
        refine hK _ ?_
        clear hK K
        refine tree_skip rfl rfl ?_
        try go_simp
        refine tree_skip rfl rfl ?_
        try go_simp
        refine tree_skip rfl rfl ?_
        try go_simp
        refine tree_skip rfl rfl ?_
        try go_simp
        refine tree_skip rfl rfl ?_
        try go_simp
        refine tree_skip rfl rfl ?_
        try go_simp
        refine tree_skip rfl rfl ?_
        try go_simp
        refine tree_eskip (fun _ => hgW2) rfl rfl ?_
        try go_simp
        refine tree_eskip0 (by kernel_rfl) rfl rfl ?_
        try go_simp
        refine tree_eskip0 (by kernel_rfl) rfl rfl ?_
        try go_simp
        refine tree_p rfl rfl rfl rfl _ rfl (by simp) (fun K hK => ?_)
        apply Exists.intro
        refine ⟨fun wq K' hK' => ?_, ?_⟩
        · go_wp2_with fail
          exact hK'
        go_simp
        refine hK _ ?_
        clear hK K
        refine tree_p rfl rfl rfl rfl _ rfl (by simp) (fun K hK => ?_)
        apply Exists.intro
        refine ⟨fun wq K' hK' => ?_, ?_⟩
        · go_wp2_with fail
          exact hK'
        go_simp
        refine hK _ ?_
        clear hK K
        refine tree_done ?_
        go_wp2_with fail
        go_ret
        exact ⟨ret_bool (by rw [hV.out]; simp), gr_trans hgW hgW2⟩
      | true =>
        go_upto_region 4 with fail
        refine wp_region_tree (fun wx => W.grownBy wx none) [2, 1, 1, 1, 0, 1, 1, 1, 0, 0, 2, 2, 1, 1, 1, 0, 1, 1, 1, 0, 0, 2, 2] (.bl 0 (.bl 1 (.bl 2 (.bl 3 (.bl 5 (.bl 6 (.bl 7 (.ef 4 (.ef 8 (.ef 9 (.bl 10 (.bl 11 (.bl 12 (.bl 13 (.bl 14 (.bl 16 (.bl 17 (.bl 18 (.ef 15 (.ef 19 (.ef 20 (.bl 21 (.bl 22 .done))))))))))))))))))))))) (by kernel_rfl) (by kernel_rfl) (gr_drew hgW2) ?_
        obtain ⟨W1, hW1⟩ : ∃ x, x = (w2).drew := ⟨_, rfl⟩
        rw [← hW1]
        have hgW1 : (w2).grownBy W1 none := by rw [hW1]; exact gr_drew (World.grownBy.refl _ _)
        clear hW1
        replace hgW2 := gr_trans hgW2 hgW1
        refine tree_p rfl rfl rfl rfl _ rfl (by simp) (fun K hK => ?_)
        apply Exists.intro
        refine ⟨fun wq K' hK' => ?_, ?_⟩
        · go_wp2_with fail
          exact hK'
        go_simp
        refine hK _ ?_
        clear hK K
        refine tree_b rfl rfl rfl rfl _ rfl (by simp) (fun K hK => ?_)
        apply Exists.intro
        refine ⟨fun wq hq K' hK' => ?_, ?_⟩
        · obtain ⟨⟨a0, a1⟩, ⟨b0, b1⟩, ⟨c0, c1⟩, d0, d1⟩ := hC.out _ hq
          go_wp2_with fail
          exact hK'
        go_simp
        refine hK _ ?_
        clear hK K
        refine tree_b rfl rfl rfl rfl _ rfl (by simp) (fun K hK => ?_)
        apply Exists.intro
        refine ⟨fun wq hq K' hK' => ?_, ?_⟩
        · obtain ⟨⟨a0, a1⟩, ⟨b0, b1⟩, ⟨c0, c1⟩, d0, d1⟩ := hC.out _ hq
          go_wp2_with fail
          exact hK'
        go_simp
        refine hK _ ?_
        clear hK K
        refine tree_b rfl rfl rfl rfl _ rfl (by simp) (fun K hK => ?_)
        apply Exists.intro
        refine ⟨fun wq hq K' hK' => ?_, ?_⟩
        · obtain ⟨⟨a0, a1⟩, ⟨b0, b1⟩, ⟨c0, c1⟩, d0, d1⟩ := hC.out _ hq
          go_wp2_with fail
          exact hK'
        go_simp
        refine hK _ ?_
        clear hK K
        refine tree_b rfl rfl rfl rfl _ rfl (by simp) (fun K hK => ?_)
        apply Exists.intro
        refine ⟨fun wq hq K' hK' => ?_, ?_⟩
        · obtain ⟨⟨a0, a1⟩, ⟨b0, b1⟩, ⟨c0, c1⟩, d0, d1⟩ := hC.out _ hq
          go_wp2_with fail
          exact hK'
        go_simp
        refine hK _ ?_
        clear hK K
        refine tree_b rfl rfl rfl rfl _ rfl (by simp) (fun K hK => ?_)
        apply Exists.intro
        refine ⟨fun wq hq K' hK' => ?_, ?_⟩
        · obtain ⟨⟨a0, a1⟩, ⟨b0, b1⟩, ⟨c0, c1⟩, d0, d1⟩ := hC.out _ hq
          go_wp2_with fail
          exact hK'
        go_simp
        refine hK _ ?_
        clear hK K
        refine tree_b rfl rfl rfl rfl _ rfl (by simp) (fun K hK => ?_)
        apply Exists.intro
        refine ⟨fun wq hq K' hK' => ?_, ?_⟩
        · obtain ⟨⟨a0, a1⟩, ⟨b0, b1⟩, ⟨c0, c1⟩, d0, d1⟩ := hC.out _ hq
          go_wp2_with fail
          exact hK'
        go_simp
        refine hK _ ?_
        clear hK K
        refine tree_e rfl rfl (fun K hK => ?_)
        go_wp2_with fail
        refine (hT1.out _).mono ?_
        rintro e w4 ⟨rfl, hg4⟩
        replace hgW2 := gr_trans hgW2 hg4
        go_wp2_with fail
        try go_simp
        refine hK _ _ (hgW2) ?_
        clear hK K
        refine tree_e rfl rfl (fun K hK => ?_)
        go_wp2_with fail
        refine (hT2.out _).mono ?_
        rintro e w8 ⟨rfl, hg8⟩
        replace hgW2 := gr_trans hgW2 hg8
        go_wp2_with fail
        try go_simp
        refine hK _ _ (hgW2) ?_
        clear hK K
        refine tree_e rfl rfl (fun K hK => ?_)
        go_wp2_with fail
        refine (hX1.out _).mono ?_
        rintro e w9 ⟨rfl, hg9⟩
        replace hgW2 := gr_trans hgW2 hg9
        go_wp2_with fail
        try go_simp
        refine hK _ _ (hgW2) ?_
        clear hK K
        refine tree_p rfl rfl rfl rfl _ rfl (by simp) (fun K hK => ?_)
        apply Exists.intro
        refine ⟨fun wq K' hK' => ?_, ?_⟩
        · go_wp2_with fail
          exact hK'
        go_simp
        refine hK _ ?_
        clear hK K
        refine tree_p rfl rfl rfl rfl _ rfl (by simp) (fun K hK => ?_)
        apply Exists.intro
        refine ⟨fun wq K' hK' => ?_, ?_⟩
        · go_wp2_with fail
          exact hK'
        go_simp
        refine hK _ ?_
        clear hK K
        refine tree_b rfl rfl rfl rfl _ rfl (by simp) (fun K hK => ?_)
        apply Exists.intro
        refine ⟨fun wq hq K' hK' => ?_, ?_⟩
        · obtain ⟨⟨a0, a1⟩, ⟨b0, b1⟩, ⟨c0, c1⟩, d0, d1⟩ := hC.out _ hq
          go_wp2_with fail
          exact hK'
        go_simp
        refine hK _ ?_
        clear hK K
        refine tree_b rfl rfl rfl rfl _ rfl (by simp) (fun K hK => ?_)
        apply Exists.intro
        refine ⟨fun wq hq K' hK' => ?_, ?_⟩
        · obtain ⟨⟨a0, a1⟩, ⟨b0, b1⟩, ⟨c0, c1⟩, d0, d1⟩ := hC.out _ hq
          go_wp2_with fail
          exact hK'
        go_simp
        refine hK _ ?_
        clear hK K
        refine tree_b rfl rfl rfl rfl _ rfl (by simp) (fun K hK => ?_)
        apply Exists.intro
        refine ⟨fun wq hq K' hK' => ?_, ?_⟩
        · obtain ⟨⟨a0, a1⟩, ⟨b0, b1⟩, ⟨c0, c1⟩, d0, d1⟩ := hC.out _ hq
          go_wp2_with fail
          exact hK'
        go_simp
        refine hK _ ?_
        clear hK K
        refine tree_b rfl rfl rfl rfl _ rfl (by simp) (fun K hK => ?_)
        apply Exists.intro
        refine ⟨fun wq hq K' hK' => ?_, ?_⟩
        · obtain ⟨⟨a0, a1⟩, ⟨b0, b1⟩, ⟨c0, c1⟩, d0, d1⟩ := hC.out _ hq
          go_wp2_with fail
          exact hK'
        go_simp
        refine hK _ ?_
        clear hK K
        refine tree_b rfl rfl rfl rfl _ rfl (by simp) (fun K hK => ?_)
        apply Exists.intro
        refine ⟨fun wq hq K' hK' => ?_, ?_⟩
        · obtain ⟨⟨a0, a1⟩, ⟨b0, b1⟩, ⟨c0, c1⟩, d0, d1⟩ := hC.out _ hq
          go_wp2_with fail
          exact hK'
        go_simp
        refine hK _ ?_
        clear hK K
        refine tree_b rfl rfl rfl rfl _ rfl (by simp) (fun K hK => ?_)
        apply Exists.intro
        refine ⟨fun wq hq K' hK' => ?_, ?_⟩
        · obtain ⟨⟨a0, a1⟩, ⟨b0, b1⟩, ⟨c0, c1⟩, d0, d1⟩ := hC.out _ hq
          go_wp2_with fail
          exact hK'
        go_simp
        refine hK _ ?_
        clear hK K
        refine tree_e rfl rfl (fun K hK => ?_)
        go_wp2_with fail
        refine (hT3.out _).mono ?_
        rintro e w15 ⟨rfl, hg15⟩
        replace hgW2 := gr_trans hgW2 hg15
        go_wp2_with fail
        try go_simp
        refine hK _ _ (hgW2) ?_
        clear hK K
        refine tree_e0 (by kernel_rfl) rfl rfl (fun K hK => ?_)
        go_wp2_with fail
        refine (hT4.out _).mono ?_
        rintro e w19 ⟨rfl, hg19⟩
        replace hgW2 := gr_trans hgW2 hg19
        go_wp2_with fail
        try go_simp
        refine hK _ _ trivial ?_
        clear hK K
        refine tree_e0 (by kernel_rfl) rfl rfl (fun K hK => ?_)
        go_wp2_with fail
        refine (hX2.out _).mono ?_
        rintro e w20 ⟨rfl, hg20⟩
        replace hgW2 := gr_trans hgW2 hg20
        go_wp2_with fail
        try go_simp
        refine hK _ _ trivial ?_
        clear hK K
        refine tree_p rfl rfl rfl rfl _ rfl (by simp) (fun K hK => ?_)
        apply Exists.intro
        refine ⟨fun wq K' hK' => ?_, ?_⟩
        · go_wp2_with fail
          exact hK'
        go_simp
        refine hK _ ?_
        clear hK K
        refine tree_p rfl rfl rfl rfl _ rfl (by simp) (fun K hK => ?_)
        apply Exists.intro
        refine ⟨fun wq K' hK' => ?_, ?_⟩
        · go_wp2_with fail
          exact hK'
        go_simp
        refine hK _ ?_
        clear hK K
        refine tree_done ?_
        go_wp2_with fail
        go_ret
        exact ⟨ret_bool (by rw [hV.out]; simp), gr_trans hgW hgW2⟩

end Go.Proofs.YtejmbaiioblfeaaGreatDoor

namespace Go.Bl
open Go

theorem Sl.pt {w : World} {lo : Nat} {A : Option Addr} {l : List Pt} (h : Sl w lo A l) (hn : 0 < l.length) : ∃ g o, A = some ⟨g, o, none⟩ ∧ lo ≤ g ∧ g < w.heap.size ∧
    ∀ k (hk : k < l.length), w.cell? ⟨g, o + k * 2, none⟩ = some (.int .i64 l[k].x) ∧ w.cell? ⟨g, o + k * 2 + 1, none⟩ = some (.int .i64 l[k].y) := by
  obtain ⟨g, o, _, rfl, h1, h2, _, _⟩ := h.at_ (by decide) hn
  refine ⟨g, o, rfl, h1, h2, fun k hk => ?_⟩
  obtain ⟨g', o', c, e, _, _, rfl, hc⟩ := h.at_ (by decide) hk
  cases e
  exact ⟨hc 0 _ rfl, hc 1 _ rfl⟩
/-- the corner behind i - 1 -/
def cor (r : List Pt) (i : Nat) : Pt := r.getD (i % r.length) default

theorem cor_lt {r : List Pt} {i : Nat} (h : i < r.length) : cor r i = r[i] := by unfold cor; rw [Nat.mod_eq_of_lt h]; simp [List.getD, h]

theorem cor_at {r : List Pt} {i : Nat} (h : 0 < r.length) : ∃ h : i % r.length < r.length, cor r i = r[i % r.length] := by
  have hm := Nat.mod_lt i h
  exact ⟨hm, by unfold cor; simp [List.getD, hm]⟩
/-- two sides of a ring that have no corner in common, and meet -/
def sidesM (r : List Pt) (i k : Nat) : Bool := decide (i + 2 ≤ k ∧ ¬(i = 0 ∧ k + 1 = r.length)) && meetM (cor r i) (cor r (i + 1)) (cor r k) (cor r (k + 1))

def badI (r : List Pt) (i : Nat) : Bool := foldB (cor r (i + 1)) (cor r i) (cor r (i + 2)) || (List.range r.length).any (sidesM r i)

def sidesF (r : List Pt) : Int := if (List.range r.length).any (badI r) then 13 else 0

theorem any_yes {n k : Nat} {f : Nat → Bool} (hk : k < n) (h : f k = true) : (List.range n).any f = true := List.any_eq_true.2 ⟨k, List.mem_range.2 hk, h⟩

theorem any_no {n : Nat} {f : Nat → Bool} (h : ∀ k, k < n → f k = false) : (List.range n).any f = false := by
  rw [List.any_eq_false]; intro k hk; rw [h k (List.mem_range.1 hk)]; simp

end Go.Bl
namespace Go.Proofs.YtejmbaiioblfeaaGreatDoor
open Go Go.RowKit Go.Bl

set_option maxHeartbeats 8000000 in
set_option maxRecDepth 100000 in
theorem sidesFault_any (A : Option Addr) (c : Nat) (r : List Pt) (w : World) (hl : Sl w 0 A r) (h3 : 3 ≤ r.length) (h5 : r.length ≤ 500) (hb : ∀ p ∈ r, bdP p) :
    Calls Tryz.prog 60 #[.slice A r.length c] w fun e w' => e = .returned (.int .i64 (sidesF r)) ∧ w.grownBy w' none := by
  have hcb : ∀ i, bdP (cor r i) := fun i => by
    obtain ⟨h, e⟩ := cor_at (r := r) (i := i) (by omega)
    rw [e]; exact hb _ (List.getElem_mem _)
  replace hcb := hide hcb
  obtain ⟨g, o, rfl, -, hbg, hcell⟩ := hl.pt (by omega)
  have hct : ∀ i (wx : World), w.grownBy wx none → ∀ j, j = i % r.length → wx.cell? ⟨g, o + j * 2, none⟩ = some (.int .i64 (cor r i).x) ∧ wx.cell? ⟨g, o + j * 2 + 1, none⟩ = some (.int .i64 (cor r i).y) := fun i wx hg j hj => by
    subst hj
    obtain ⟨h, e⟩ := cor_at (r := r) (i := i) (by omega)
    rw [e]; exact ⟨hg.k (hcell _ h).1, hg.k (hcell _ h).2⟩
  replace hct := hide hct
  clear hb hl hcell
  have hF1 : Hid (∀ i, i < r.length → badI r i = true → sidesF r = 13) := fun i hi h => by unfold sidesF; rw [if_pos (any_yes hi h)]
  have hF0 : Hid ((∀ i, i < r.length → badI r i = false) → sidesF r = 0) := fun h => by unfold sidesF; rw [any_no h]; simp
  go_enter Tryz.func60, Tryz.ntmps60
  go_wp2_with fail
  go_loopw [12] (fun i wr => ∃ k : Nat, k ≤ r.length ∧ i = .int .i64 k ∧ w.grownBy wr none ∧ Hid (∀ i, i < k → badI r i = false)) (fun i _ => r.length - (intOf i).toNat)
  case atStart => exact ⟨0, Nat.zero_le _, rfl, World.grownBy.refl _ _, fun i h => by omega⟩
  case round =>
    obtain ⟨i, hi, rfl, hg, hall⟩ := hrel
    by_cases hlt : i < r.length
    · have hm0 : i = i % r.length := (Nat.mod_eq_of_lt hlt).symm
      obtain ⟨q0, q1⟩ := hct.out i wr hg i hm0
      clear hm0
      obtain ⟨j1, hj1⟩ : ∃ j, j = (i + 1) % r.length := ⟨_, rfl⟩
      have hj1b : ((i : Int) + 1) % r.length = j1 := by rw [hj1]; simp
      obtain ⟨s0, s1⟩ := hct.out (i + 1) wr hg j1 hj1
      have hj1l : j1 < r.length := by rw [hj1]; exact Nat.mod_lt _ (by omega)
      replace hj1 := hide hj1
      go_upto_region 5 with fail
      go_cut [5, 6] from 15 to 25 (fun s5 s6 wx => ∃ ga gb : Nat, s5 = .pointer (some ⟨ga, 0, none⟩) ∧ s6 = .pointer (some ⟨gb, 0, none⟩) ∧ Box wx ga 29 [.int .i64 (cor r i).x, .int .i64 (cor r i).y] ∧ Box wx gb 29 [.int .i64 (cor r (i + 1)).x, .int .i64 (cor r (i + 1)).y] ∧ w.grownBy wx none)
      case first =>
        refine wp_region_tree (fun wx => wr.grownBy wx none) [2, 2, 2, 1, 2, 2, 2, 2, 2, 2, 1, 0, 0, 0, 0] (.bl 0 (.bl 1 (.bl 2 (.bl 3 (.bl 4 (.bl 5 (.bl 6 (.bl 7 (.bl 8 (.bl 9 (.bl 10 (.alt (.ef 11 (.ef 12 (.ef 13 (.ef 14 .done)))) (.ef 12 (.ef 11 (.ef 13 (.ef 14 .done)))))))))))))))) (by kernel_rfl) (by kernel_rfl) (gr_drew (World.grownBy.refl _ _)) ?_
        obtain ⟨W1, hW1⟩ : ∃ x, x = (wr).drew := ⟨_, rfl⟩
        rw [← hW1]
        have hgW1 : (wr).grownBy W1 none := by rw [hW1]; exact gr_drew (World.grownBy.refl _ _)
        clear hW1
        replace hg := gr_trans hg hgW1
        refine tree_p rfl rfl rfl rfl _ rfl (by simp) (fun K hK => ?_)
        apply Exists.intro
        refine ⟨fun wq K' hK' => ?_, ?_⟩
        · go_wp2_with fail
          exact hK'
        go_simp
        refine hK _ ?_
        clear hK K
        refine tree_p rfl rfl rfl rfl _ rfl (by simp) (fun K hK => ?_)
        apply Exists.intro
        refine ⟨fun wq K' hK' => ?_, ?_⟩
        · go_wp2_with fail
          exact hK'
        go_simp
        refine hK _ ?_
        clear hK K
        refine tree_p rfl rfl rfl rfl _ rfl (by simp) (fun K hK => ?_)
        apply Exists.intro
        refine ⟨fun wq K' hK' => ?_, ?_⟩
        · go_wp2_with fail
          exact hK'
        go_simp
        refine hK _ ?_
        clear hK K
        refine tree_b rfl rfl rfl rfl _ rfl (by simp) (fun K hK => ?_)
        apply Exists.intro
        refine ⟨fun wq hq K' hK' => ?_, ?_⟩
        · have qq0 := hq.k q0
          have qq1 := hq.k q1
          have ss0 := hq.k s0
          have ss1 := hq.k s1
          go_wp2_with fail
          exact hK'
        go_simp
        refine hK _ ?_
        clear hK K
        refine tree_p rfl rfl rfl rfl _ rfl (by simp) (fun K hK => ?_)
        apply Exists.intro
        refine ⟨fun wq K' hK' => ?_, ?_⟩
        · go_wp2_with fail
          exact hK'
        go_simp
        refine hK _ ?_
        clear hK K
        refine tree_p rfl rfl rfl rfl _ rfl (by simp) (fun K hK => ?_)
        apply Exists.intro
        refine ⟨fun wq K' hK' => ?_, ?_⟩
        · go_wp2_with fail
          exact hK'
        go_simp
        refine hK _ ?_
        clear hK K
        refine tree_p rfl rfl rfl rfl _ rfl (by simp) (fun K hK => ?_)
        apply Exists.intro
        refine ⟨fun wq K' hK' => ?_, ?_⟩
        · go_wp2_with fail
          exact hK'
        go_simp
        refine hK _ ?_
        clear hK K
        refine tree_p rfl rfl rfl rfl _ rfl (by simp) (fun K hK => ?_)
        apply Exists.intro
        refine ⟨fun wq K' hK' => ?_, ?_⟩
        · go_wp2_with fail
          exact hK'
        go_simp
        refine hK _ ?_
        clear hK K
        refine tree_p rfl rfl rfl rfl _ rfl (by simp) (fun K hK => ?_)
        apply Exists.intro
        refine ⟨fun wq K' hK' => ?_, ?_⟩
        · go_wp2_with fail
          exact hK'
        go_simp
        refine hK _ ?_
        clear hK K
        refine tree_p rfl rfl rfl rfl _ rfl (by simp) (fun K hK => ?_)
        apply Exists.intro
        refine ⟨fun wq K' hK' => ?_, ?_⟩
        · go_wp2_with fail
          exact hK'
        go_simp
        refine hK _ ?_
        clear hK K
        refine tree_b rfl rfl rfl rfl _ rfl (by simp) (fun K hK => ?_)
        apply Exists.intro
        refine ⟨fun wq hq K' hK' => ?_, ?_⟩
        · have qq0 := hq.k q0
          have qq1 := hq.k q1
          have ss0 := hq.k s0
          have ss1 := hq.k s1
          go_wp2_with fail
          exact hK'
        go_simp
        refine hK _ ?_
        clear hK K
        refine tree_alt ?_ ?_
        · refine tree_e rfl rfl (fun K hK => ?_)
          go_wp2_with fail
          try go_simp
          refine hK _ _ (gr_alloc hgW1 _) ?_
          clear hK K
          obtain ⟨w11, hw11⟩ : ∃ x, x = (W1).alloc (.cells [.int .i64 0, .int .i64 0].toArray 29) := ⟨_, rfl⟩
          have hg11 : (W1).grownBy w11 none := by rw [hw11]; exact gr_alloc (World.grownBy.refl _ _) _
          have hb11 : Box w11 (W1).heap.size 29 [.int .i64 0, .int .i64 0] := by rw [hw11]; exact Box.new _ _ _
          rw [← hw11]
          clear hw11
          obtain ⟨x11, hx11⟩ : ∃ x, x = (W1).heap.size := ⟨_, rfl⟩
          rw [← hx11] at hb11 ⊢
          have hxl11 : (W1).heap.size ≤ x11 := by omega
          clear hx11
          have hxr11 : wr.heap.size ≤ x11 := Nat.le_trans (gr_trans hgW1 (World.grownBy.refl _ _)).size hxl11
          have hx11 : w.heap.size ≤ x11 := Nat.le_trans (gr_trans hg (World.grownBy.refl _ _)).size hxl11
          refine tree_e rfl rfl (fun K hK => ?_)
          go_wp2_with fail
          try go_simp
          refine hK _ _ (gr_alloc (gr_trans hgW1 hg11) _) ?_
          clear hK K
          obtain ⟨w12, hw12⟩ : ∃ x, x = (w11).alloc (.cells [.int .i64 0, .int .i64 0].toArray 29) := ⟨_, rfl⟩
          have hg12 : (w11).grownBy w12 none := by rw [hw12]; exact gr_alloc (World.grownBy.refl _ _) _
          have hb12 : Box w12 (w11).heap.size 29 [.int .i64 0, .int .i64 0] := by rw [hw12]; exact Box.new _ _ _
          rw [← hw12]
          clear hw12
          obtain ⟨x12, hx12⟩ : ∃ x, x = (w11).heap.size := ⟨_, rfl⟩
          rw [← hx12] at hb12 ⊢
          have hxl12 : (w11).heap.size ≤ x12 := by omega
          clear hx12
          have hxr12 : wr.heap.size ≤ x12 := Nat.le_trans (gr_trans hgW1 hg11).size hxl12
          have hx12 : w.heap.size ≤ x12 := Nat.le_trans (gr_trans hg hg11).size hxl12
          have hne : x11 ≠ x12 := by have := hb11.lt; omega
          replace hb11 := hb11.pure hg12
          refine tree_e rfl rfl (fun K hK => ?_)
          obtain ⟨y0, z0⟩ := hb11.c 0 rfl
          obtain ⟨y1, z1⟩ := hb11.c 1 rfl
          have hg13 := gr_trans hg (gr_trans hg11 hg12)
          have hr13 := gr_trans hgW1 (gr_trans hg11 hg12)
          go_wp2_with fail
          try go_simp
          refine hK _ _ (gr_set (gr_set hr13 (.inr hxr11) _) (.inr hxr11) _) ?_
          clear hK K
          obtain ⟨w13, hw13⟩ : ∃ x, x = ((w12).setCell ⟨x11, 0, none⟩ (.int .i64 (cor r i).x)).setCell ⟨x11, 1, none⟩ (.int .i64 (cor r i).y) := ⟨_, rfl⟩
          have hb11' : Box w13 x11 29 [.int .i64 (cor r i).x, .int .i64 (cor r i).y] := by rw [hw13]; exact (hb11.set_ 0 _ (by simp)).set_ 1 _ (by simp)
          have hb12' : Box w13 x12 29 [.int .i64 0, .int .i64 0] := by rw [hw13]; exact (hb12.set_other _ hne).set_other _ hne
          have hg13' : w.grownBy w13 none := by rw [hw13]; exact gr_set (gr_set hg13 (.inr hx11) _) (.inr hx11) _
          rw [← hw13]
          clear hw13 y0 y1 z0 z1 hb11 hb12 hg13
          refine tree_e0 (by kernel_rfl) rfl rfl (fun K hK => ?_)
          obtain ⟨y0, z0⟩ := hb12'.c 0 rfl
          obtain ⟨y1, z1⟩ := hb12'.c 1 rfl
          go_wp2_with fail
          try go_simp
          refine hK _ _ trivial ?_
          clear hK K
          refine tree_done ?_
          go_wp2_with fail
          go_meet
          have hne' := Ne.symm hne
          exact ⟨x11, x12, rfl, rfl, (hb11'.set_other _ hne').set_other _ hne', (hb12'.set_ 0 _ (by simp)).set_ 1 _ (by simp), gr_set (gr_set hg13' (.inr hx12) _) (.inr hx12) _⟩
        · refine tree_e rfl rfl (fun K hK => ?_)
          go_wp2_with fail
          try go_simp
          refine hK _ _ (gr_alloc hgW1 _) ?_
          clear hK K
          obtain ⟨w12, hw12⟩ : ∃ x, x = (W1).alloc (.cells [.int .i64 0, .int .i64 0].toArray 29) := ⟨_, rfl⟩
          have hg12 : (W1).grownBy w12 none := by rw [hw12]; exact gr_alloc (World.grownBy.refl _ _) _
          have hb12 : Box w12 (W1).heap.size 29 [.int .i64 0, .int .i64 0] := by rw [hw12]; exact Box.new _ _ _
          rw [← hw12]
          clear hw12
          obtain ⟨x12, hx12⟩ : ∃ x, x = (W1).heap.size := ⟨_, rfl⟩
          rw [← hx12] at hb12 ⊢
          have hxl12 : (W1).heap.size ≤ x12 := by omega
          clear hx12
          have hxr12 : wr.heap.size ≤ x12 := Nat.le_trans (gr_trans hgW1 (World.grownBy.refl _ _)).size hxl12
          have hx12 : w.heap.size ≤ x12 := Nat.le_trans (gr_trans hg (World.grownBy.refl _ _)).size hxl12
          refine tree_e rfl rfl (fun K hK => ?_)
          go_wp2_with fail
          try go_simp
          refine hK _ _ (gr_alloc (gr_trans hgW1 hg12) _) ?_
          clear hK K
          obtain ⟨w11, hw11⟩ : ∃ x, x = (w12).alloc (.cells [.int .i64 0, .int .i64 0].toArray 29) := ⟨_, rfl⟩
          have hg11 : (w12).grownBy w11 none := by rw [hw11]; exact gr_alloc (World.grownBy.refl _ _) _
          have hb11 : Box w11 (w12).heap.size 29 [.int .i64 0, .int .i64 0] := by rw [hw11]; exact Box.new _ _ _
          rw [← hw11]
          clear hw11
          obtain ⟨x11, hx11⟩ : ∃ x, x = (w12).heap.size := ⟨_, rfl⟩
          rw [← hx11] at hb11 ⊢
          have hxl11 : (w12).heap.size ≤ x11 := by omega
          clear hx11
          have hxr11 : wr.heap.size ≤ x11 := Nat.le_trans (gr_trans hgW1 hg12).size hxl11
          have hx11 : w.heap.size ≤ x11 := Nat.le_trans (gr_trans hg hg12).size hxl11
          have hne : x11 ≠ x12 := by have := hb12.lt; omega
          replace hb12 := hb12.pure hg11
          refine tree_e rfl rfl (fun K hK => ?_)
          obtain ⟨y0, z0⟩ := hb11.c 0 rfl
          obtain ⟨y1, z1⟩ := hb11.c 1 rfl
          have hg13 := gr_trans hg (gr_trans hg12 hg11)
          have hr13 := gr_trans hgW1 (gr_trans hg12 hg11)
          go_wp2_with fail
          try go_simp
          refine hK _ _ (gr_set (gr_set hr13 (.inr hxr11) _) (.inr hxr11) _) ?_
          clear hK K
          obtain ⟨w13, hw13⟩ : ∃ x, x = ((w11).setCell ⟨x11, 0, none⟩ (.int .i64 (cor r i).x)).setCell ⟨x11, 1, none⟩ (.int .i64 (cor r i).y) := ⟨_, rfl⟩
          have hb11' : Box w13 x11 29 [.int .i64 (cor r i).x, .int .i64 (cor r i).y] := by rw [hw13]; exact (hb11.set_ 0 _ (by simp)).set_ 1 _ (by simp)
          have hb12' : Box w13 x12 29 [.int .i64 0, .int .i64 0] := by rw [hw13]; exact (hb12.set_other _ hne).set_other _ hne
          have hg13' : w.grownBy w13 none := by rw [hw13]; exact gr_set (gr_set hg13 (.inr hx11) _) (.inr hx11) _
          rw [← hw13]
          clear hw13 y0 y1 z0 z1 hb11 hb12 hg13
          refine tree_e0 (by kernel_rfl) rfl rfl (fun K hK => ?_)
          obtain ⟨y0, z0⟩ := hb12'.c 0 rfl
          obtain ⟨y1, z1⟩ := hb12'.c 1 rfl
          go_wp2_with fail
          try go_simp
          refine hK _ _ trivial ?_
          clear hK K
          refine tree_done ?_
          go_wp2_with fail
          go_meet
          have hne' := Ne.symm hne
          exact ⟨x11, x12, rfl, rfl, (hb11'.set_other _ hne').set_other _ hne', (hb12'.set_ 0 _ (by simp)).set_ 1 _ (by simp), gr_set (gr_set hg13' (.inr hx12) _) (.inr hx12) _⟩
      case rest =>
      obtain ⟨ga, gb, rfl, rfl, hba, hbb, hgc⟩ := hcut
      rename World => wc
      clear q0 q1 s0 s1 hg
      obtain ⟨j2, hj2⟩ : ∃ j, j = (i + 2) % r.length := ⟨_, rfl⟩
      have hj2b : ((i : Int) + 2) % r.length = j2 := by rw [hj2]; simp
      have hj2l : j2 < r.length := by rw [hj2]; exact Nat.mod_lt _ (by omega)
      obtain ⟨s0, s1⟩ := hct.out (i + 2) wc hgc j2 hj2
      replace hj2 := hide hj2
      obtain ⟨a0, -⟩ := hba.c 0 rfl
      obtain ⟨a1, -⟩ := hba.c 1 rfl
      obtain ⟨b0, -⟩ := hbb.c 0 rfl
      obtain ⟨b1, -⟩ := hbb.c 1 rfl
      have hFo := hide fun w => foldsBack_any (cor r (i + 1)) (cor r i) (cor r (i + 2)) w (hcb.out _) (hcb.out _) (hcb.out _)
      go_upto_region 6 with fail
      refine wp_region_tree (fun wx => wc.grownBy wx none) [1, 1, 2, 2, 2, 2, 2, 2, 1, 0] (.bl 0 (.bl 1 (.bl 2 (.bl 3 (.bl 4 (.bl 5 (.bl 6 (.bl 7 (.bl 8 (.ef 9 .done)))))))))) (by kernel_rfl) (by kernel_rfl) (gr_drew (World.grownBy.refl _ _)) ?_
      obtain ⟨W1, hW1⟩ : ∃ x, x = (wc).drew := ⟨_, rfl⟩
      rw [← hW1]
      have hgW1 : (wc).grownBy W1 none := by rw [hW1]; exact gr_drew (World.grownBy.refl _ _)
      clear hW1
      refine tree_b rfl rfl rfl rfl _ rfl (by simp) (fun K hK => ?_)
      apply Exists.intro
      refine ⟨fun wq hq K' hK' => ?_, ?_⟩
      · have aa0 := hq.k a0
        have aa1 := hq.k a1
        have bb0 := hq.k b0
        have bb1 := hq.k b1
        have ss0 := hq.k s0
        have ss1 := hq.k s1
        go_wp2_with fail
        exact hK'
      go_simp
      refine hK _ ?_
      clear hK K
      refine tree_b rfl rfl rfl rfl _ rfl (by simp) (fun K hK => ?_)
      apply Exists.intro
      refine ⟨fun wq hq K' hK' => ?_, ?_⟩
      · have aa0 := hq.k a0
        have aa1 := hq.k a1
        have bb0 := hq.k b0
        have bb1 := hq.k b1
        have ss0 := hq.k s0
        have ss1 := hq.k s1
        go_wp2_with fail
        exact hK'
      go_simp
      refine hK _ ?_
      clear hK K
      refine tree_p rfl rfl rfl rfl _ rfl (by simp) (fun K hK => ?_)
      apply Exists.intro
      refine ⟨fun wq K' hK' => ?_, ?_⟩
      · go_wp2_with fail
        exact hK'
      go_simp
      refine hK _ ?_
      clear hK K
      refine tree_p rfl rfl rfl rfl _ rfl (by simp) (fun K hK => ?_)
      apply Exists.intro
      refine ⟨fun wq K' hK' => ?_, ?_⟩
      · go_wp2_with fail
        exact hK'
      go_simp
      refine hK _ ?_
      clear hK K
      refine tree_p rfl rfl rfl rfl _ rfl (by simp) (fun K hK => ?_)
      apply Exists.intro
      refine ⟨fun wq K' hK' => ?_, ?_⟩
      · go_wp2_with fail
        exact hK'
      go_simp
      refine hK _ ?_
      clear hK K
      refine tree_p rfl rfl rfl rfl _ rfl (by simp) (fun K hK => ?_)
      apply Exists.intro
      refine ⟨fun wq K' hK' => ?_, ?_⟩
      · go_wp2_with fail
        exact hK'
      go_simp
      refine hK _ ?_
      clear hK K
      refine tree_p rfl rfl rfl rfl _ rfl (by simp) (fun K hK => ?_)
      apply Exists.intro
      refine ⟨fun wq K' hK' => ?_, ?_⟩
      · go_wp2_with fail
        exact hK'
      go_simp
      refine hK _ ?_
      clear hK K
      refine tree_p rfl rfl rfl rfl _ rfl (by simp) (fun K hK => ?_)
      apply Exists.intro
      refine ⟨fun wq K' hK' => ?_, ?_⟩
      · go_wp2_with fail
        exact hK'
      go_simp
      refine hK _ ?_
      clear hK K
      refine tree_b rfl rfl rfl rfl _ rfl (by simp) (fun K hK => ?_)
      apply Exists.intro
      refine ⟨fun wq hq K' hK' => ?_, ?_⟩
      · have aa0 := hq.k a0
        have aa1 := hq.k a1
        have bb0 := hq.k b0
        have bb1 := hq.k b1
        have ss0 := hq.k s0
        have ss1 := hq.k s1
        go_wp2_with fail
        exact hK'
      go_simp
      refine hK _ ?_
      clear hK K
      refine tree_e0 (by kernel_rfl) rfl rfl (fun K hK => ?_)
      go_wp2_with fail
      refine (hFo.out _).mono ?_
      rintro e w9 ⟨rfl, hg9⟩
      go_wp2_with fail
      try go_simp
      refine hK _ _ trivial ?_
      clear hK K
      refine tree_done ?_
      have hg9' := gr_trans hgW1 hg9
      replace hba := hba.pure hg9'
      replace hbb := hbb.pure hg9'
      replace hgc := gr_trans hgc hg9'
      clear a0 a1 b0 b1 s0 s1 hFo hg9 hgW1 hg9'
      have hB : Hid (badI r i = (foldB (cor r (i + 1)) (cor r i) (cor r (i + 2)) || (List.range r.length).any (sidesM r i))) := rfl
      rcases hf : foldB (cor r (i + 1)) (cor r i) (cor r (i + 2)) with _ | _
      · rw [hf, Bool.false_or] at hB
        clear hf
        go_wp2_with fail
        go_loopw [7] (fun s7 wr => ∃ k : Nat, i + 2 ≤ k ∧ k ≤ r.length + 1 ∧ s7 = .int .i64 k ∧ Box wr ga 29 [.int .i64 (cor r i).x, .int .i64 (cor r i).y] ∧ Box wr gb 29 [.int .i64 (cor r (i + 1)).x, .int .i64 (cor r (i + 1)).y] ∧ w.grownBy wr none ∧ Hid (∀ k', k' < k → sidesM r i k' = false)) (fun s7 _ => r.length + 2 - (intOf s7).toNat)
        case atStart => exact ⟨i + 2, Nat.le_refl _, by omega, by simp, hba, hbb, hgc, fun k' hk' => by unfold sidesM; rw [decide_eq_false (by omega)]; rfl⟩
        case round =>
          clear hba hbb hgc
          obtain ⟨k, hk1, hk2, rfl, hba, hbb, hgc, hin⟩ := hrel
          by_cases hkn : k < r.length
          · by_cases hlast : i = 0 ∧ k + 1 = r.length
            · have hN := hide (hF1.out)
              have hB0 : Hid (badI r i = false) := by
                rw [Hid, hB.out]
                refine any_no fun k' hk' => ?_
                by_cases e : k' < k
                · exact hin.out k' e
                · unfold sidesM; rw [decide_eq_false (by omega)]; rfl
              obtain ⟨rfl, hl2⟩ := hlast
              have hd1 : (((0 : Nat) : Int) == 0) = true := by decide
              have hd2 : ((k : Int) == (r.length : Int) - 1) = true := by simp; omega
              clear hl2
              go_wp2_with fail
              (go_roundw; (case rel => exact ⟨1, by omega, by rfl, hgc, fun i' hi' => by rw [show i' = 0 by omega]; exact hB0.out⟩); (case measure => simp [intOf]; omega))
            · have hm0 : k = k % r.length := (Nat.mod_eq_of_lt hkn).symm
              obtain ⟨q0, q1⟩ := hct.out k wr hgc k hm0
              clear hm0
              obtain ⟨j3, hj3⟩ : ∃ j, j = (k + 1) % r.length := ⟨_, rfl⟩
              have hj3b : ((k : Int) + 1) % r.length = j3 := by rw [hj3]; simp
              have hj3l : j3 < r.length := by rw [hj3]; exact Nat.mod_lt _ (by omega)
              obtain ⟨s0, s1⟩ := hct.out (k + 1) wr hgc j3 hj3
              replace hj3 := hide hj3
              obtain ⟨a0, -⟩ := hba.c 0 rfl
              obtain ⟨a1, -⟩ := hba.c 1 rfl
              obtain ⟨b0, -⟩ := hbb.c 0 rfl
              obtain ⟨b1, -⟩ := hbb.c 1 rfl
              have hMe := hide fun w => meet_any (cor r i) (cor r (i + 1)) (cor r k) (cor r (k + 1)) w (hcb.out _) (hcb.out _) (hcb.out _) (hcb.out _)
              have hSm : Hid (sidesM r i k = meetM (cor r i) (cor r (i + 1)) (cor r k) (cor r (k + 1))) := by unfold sidesM; rw [decide_eq_true ⟨hk1, hlast⟩]; rfl
              generalize hmm : meetM (cor r i) (cor r (i + 1)) (cor r k) (cor r (k + 1)) = mm at *
              by_cases hi0 : i = 0
              · have hd2 : ((k : Int) == (r.length : Int) - 1) = false := by simp; omega
                have hd1 : ((i : Int) == 0) = true := by simp [hi0]
                clear hlast hi0 hmm
                go_upto_region 11 with fail
                refine wp_region_tree (fun wx => wr.grownBy wx none) [1, 1, 2, 2, 2, 1, 2, 2, 2, 2, 2, 2, 1, 0] (.bl 0 (.bl 1 (.bl 2 (.bl 3 (.bl 4 (.bl 5 (.bl 6 (.bl 7 (.bl 8 (.bl 9 (.bl 10 (.bl 11 (.bl 12 (.ef 13 .done)))))))))))))) (by kernel_rfl) (by kernel_rfl) (gr_drew (World.grownBy.refl _ _)) ?_
                obtain ⟨W2, hW2⟩ : ∃ x, x = (wr).drew := ⟨_, rfl⟩
                rw [← hW2]
                have hgW2 : (wr).grownBy W2 none := by rw [hW2]; exact gr_drew (World.grownBy.refl _ _)
                clear hW2
                refine tree_b rfl rfl rfl rfl _ rfl (by simp) (fun K hK => ?_)
                apply Exists.intro
                refine ⟨fun wq hq K' hK' => ?_, ?_⟩
                · have aa0 := hq.k a0
                  have aa1 := hq.k a1
                  have bb0 := hq.k b0
                  have bb1 := hq.k b1
                  have qq0 := hq.k q0
                  have qq1 := hq.k q1
                  have ss0 := hq.k s0
                  have ss1 := hq.k s1
                  go_wp2_with fail
                  exact hK'
                go_simp
                refine hK _ ?_
                clear hK K
                refine tree_b rfl rfl rfl rfl _ rfl (by simp) (fun K hK => ?_)
                apply Exists.intro
                refine ⟨fun wq hq K' hK' => ?_, ?_⟩
                · have aa0 := hq.k a0
                  have aa1 := hq.k a1
                  have bb0 := hq.k b0
                  have bb1 := hq.k b1
                  have qq0 := hq.k q0
                  have qq1 := hq.k q1
                  have ss0 := hq.k s0
                  have ss1 := hq.k s1
                  go_wp2_with fail
                  exact hK'
                go_simp
                refine hK _ ?_
                clear hK K
                refine tree_p rfl rfl rfl rfl _ rfl (by simp) (fun K hK => ?_)
                apply Exists.intro
                refine ⟨fun wq K' hK' => ?_, ?_⟩
                · go_wp2_with fail
                  exact hK'
                go_simp
                refine hK _ ?_
                clear hK K
                refine tree_p rfl rfl rfl rfl _ rfl (by simp) (fun K hK => ?_)
                apply Exists.intro
                refine ⟨fun wq K' hK' => ?_, ?_⟩
                · go_wp2_with fail
                  exact hK'
                go_simp
                refine hK _ ?_
                clear hK K
                refine tree_p rfl rfl rfl rfl _ rfl (by simp) (fun K hK => ?_)
                apply Exists.intro
                refine ⟨fun wq K' hK' => ?_, ?_⟩
                · go_wp2_with fail
                  exact hK'
                go_simp
                refine hK _ ?_
                clear hK K
                refine tree_b rfl rfl rfl rfl _ rfl (by simp) (fun K hK => ?_)
                apply Exists.intro
                refine ⟨fun wq hq K' hK' => ?_, ?_⟩
                · have aa0 := hq.k a0
                  have aa1 := hq.k a1
                  have bb0 := hq.k b0
                  have bb1 := hq.k b1
                  have qq0 := hq.k q0
                  have qq1 := hq.k q1
                  have ss0 := hq.k s0
                  have ss1 := hq.k s1
                  go_wp2_with fail
                  exact hK'
                go_simp
                refine hK _ ?_
                clear hK K
                refine tree_p rfl rfl rfl rfl _ rfl (by simp) (fun K hK => ?_)
                apply Exists.intro
                refine ⟨fun wq K' hK' => ?_, ?_⟩
                · go_wp2_with fail
                  exact hK'
                go_simp
                refine hK _ ?_
                clear hK K
                refine tree_p rfl rfl rfl rfl _ rfl (by simp) (fun K hK => ?_)
                apply Exists.intro
                refine ⟨fun wq K' hK' => ?_, ?_⟩
                · go_wp2_with fail
                  exact hK'
                go_simp
                refine hK _ ?_
                clear hK K
                refine tree_p rfl rfl rfl rfl _ rfl (by simp) (fun K hK => ?_)
                apply Exists.intro
                refine ⟨fun wq K' hK' => ?_, ?_⟩
                · go_wp2_with fail
                  exact hK'
                go_simp
                refine hK _ ?_
                clear hK K
                refine tree_p rfl rfl rfl rfl _ rfl (by simp) (fun K hK => ?_)
                apply Exists.intro
                refine ⟨fun wq K' hK' => ?_, ?_⟩
                · go_wp2_with fail
                  exact hK'
                go_simp
                refine hK _ ?_
                clear hK K
                refine tree_p rfl rfl rfl rfl _ rfl (by simp) (fun K hK => ?_)
                apply Exists.intro
                refine ⟨fun wq K' hK' => ?_, ?_⟩
                · go_wp2_with fail
                  exact hK'
                go_simp
                refine hK _ ?_
                clear hK K
                refine tree_p rfl rfl rfl rfl _ rfl (by simp) (fun K hK => ?_)
                apply Exists.intro
                refine ⟨fun wq K' hK' => ?_, ?_⟩
                · go_wp2_with fail
                  exact hK'
                go_simp
                refine hK _ ?_
                clear hK K
                refine tree_b rfl rfl rfl rfl _ rfl (by simp) (fun K hK => ?_)
                apply Exists.intro
                refine ⟨fun wq hq K' hK' => ?_, ?_⟩
                · have aa0 := hq.k a0
                  have aa1 := hq.k a1
                  have bb0 := hq.k b0
                  have bb1 := hq.k b1
                  have qq0 := hq.k q0
                  have qq1 := hq.k q1
                  have ss0 := hq.k s0
                  have ss1 := hq.k s1
                  go_wp2_with fail
                  exact hK'
                go_simp
                refine hK _ ?_
                clear hK K
                refine tree_e0 (by kernel_rfl) rfl rfl (fun K hK => ?_)
                go_wp2_with fail
                refine (hMe.out _).mono ?_
                rintro e w13 ⟨rfl, hg13⟩
                go_wp2_with fail
                try go_simp
                refine hK _ _ trivial ?_
                clear hK K
                refine tree_done ?_
                have hg13' := gr_trans hgW2 hg13
                replace hba := hba.pure hg13'
                replace hbb := hbb.pure hg13'
                replace hgc := gr_trans hgc hg13'
                clear a0 a1 b0 b1 s0 s1 q0 q1 hMe hg13 hgW2 hg13'
                cases mm with
                | true =>
                  have hF := hide (hF1.out i hlt (hB.out.trans (any_yes hkn hSm.out)))
                  clear hSm hB
                  go_wp2_with fail
                  go_ret
                  exact ⟨ret_int hF.out.symm, hgc⟩
                | false =>
                  go_wp2_with fail
                  (go_roundw; (case rel => exact ⟨k + 1, by omega, by omega, by go_num, hba, hbb, hgc, fun k' hk' => by
                                              by_cases e : k' < k
                                              · exact hin.out k' e
                                              · rw [show k' = k by omega]; exact hSm.out⟩); (case measure => simp [intOf]; omega))
              · have hd1 : ((i : Int) == 0) = false := by simp; omega
                clear hlast hi0 hmm
                go_upto_region 11 with fail
                refine wp_region_tree (fun wx => wr.grownBy wx none) [1, 1, 2, 2, 2, 1, 2, 2, 2, 2, 2, 2, 1, 0] (.bl 0 (.bl 1 (.bl 2 (.bl 3 (.bl 4 (.bl 5 (.bl 6 (.bl 7 (.bl 8 (.bl 9 (.bl 10 (.bl 11 (.bl 12 (.ef 13 .done)))))))))))))) (by kernel_rfl) (by kernel_rfl) (gr_drew (World.grownBy.refl _ _)) ?_
                obtain ⟨W2, hW2⟩ : ∃ x, x = (wr).drew := ⟨_, rfl⟩
                rw [← hW2]
                have hgW2 : (wr).grownBy W2 none := by rw [hW2]; exact gr_drew (World.grownBy.refl _ _)
                clear hW2
                refine tree_b rfl rfl rfl rfl _ rfl (by simp) (fun K hK => ?_)
                apply Exists.intro
                refine ⟨fun wq hq K' hK' => ?_, ?_⟩
                · have aa0 := hq.k a0
                  have aa1 := hq.k a1
                  have bb0 := hq.k b0
                  have bb1 := hq.k b1
                  have qq0 := hq.k q0
                  have qq1 := hq.k q1
                  have ss0 := hq.k s0
                  have ss1 := hq.k s1
                  go_wp2_with fail
                  exact hK'
                go_simp
                refine hK _ ?_
                clear hK K
                refine tree_b rfl rfl rfl rfl _ rfl (by simp) (fun K hK => ?_)
                apply Exists.intro
                refine ⟨fun wq hq K' hK' => ?_, ?_⟩
                · have aa0 := hq.k a0
                  have aa1 := hq.k a1
                  have bb0 := hq.k b0
                  have bb1 := hq.k b1
                  have qq0 := hq.k q0
                  have qq1 := hq.k q1
                  have ss0 := hq.k s0
                  have ss1 := hq.k s1
                  go_wp2_with fail
                  exact hK'
                go_simp
                refine hK _ ?_
                clear hK K
                refine tree_p rfl rfl rfl rfl _ rfl (by simp) (fun K hK => ?_)
                apply Exists.intro
                refine ⟨fun wq K' hK' => ?_, ?_⟩
                · go_wp2_with fail
                  exact hK'
                go_simp
                refine hK _ ?_
                clear hK K
                refine tree_p rfl rfl rfl rfl _ rfl (by simp) (fun K hK => ?_)
                apply Exists.intro
                refine ⟨fun wq K' hK' => ?_, ?_⟩
                · go_wp2_with fail
                  exact hK'
                go_simp
                refine hK _ ?_
                clear hK K
                refine tree_p rfl rfl rfl rfl _ rfl (by simp) (fun K hK => ?_)
                apply Exists.intro
                refine ⟨fun wq K' hK' => ?_, ?_⟩
                · go_wp2_with fail
                  exact hK'
                go_simp
                refine hK _ ?_
                clear hK K
                refine tree_b rfl rfl rfl rfl _ rfl (by simp) (fun K hK => ?_)
                apply Exists.intro
                refine ⟨fun wq hq K' hK' => ?_, ?_⟩
                · have aa0 := hq.k a0
                  have aa1 := hq.k a1
                  have bb0 := hq.k b0
                  have bb1 := hq.k b1
                  have qq0 := hq.k q0
                  have qq1 := hq.k q1
                  have ss0 := hq.k s0
                  have ss1 := hq.k s1
                  go_wp2_with fail
                  exact hK'
                go_simp
                refine hK _ ?_
                clear hK K
                refine tree_p rfl rfl rfl rfl _ rfl (by simp) (fun K hK => ?_)
                apply Exists.intro
                refine ⟨fun wq K' hK' => ?_, ?_⟩
                · go_wp2_with fail
                  exact hK'
                go_simp
                refine hK _ ?_
                clear hK K
                refine tree_p rfl rfl rfl rfl _ rfl (by simp) (fun K hK => ?_)
                apply Exists.intro
                refine ⟨fun wq K' hK' => ?_, ?_⟩
                · go_wp2_with fail
                  exact hK'
                go_simp
                refine hK _ ?_
                clear hK K
                refine tree_p rfl rfl rfl rfl _ rfl (by simp) (fun K hK => ?_)
                apply Exists.intro
                refine ⟨fun wq K' hK' => ?_, ?_⟩
                · go_wp2_with fail
                  exact hK'
                go_simp
                refine hK _ ?_
                clear hK K
                refine tree_p rfl rfl rfl rfl _ rfl (by simp) (fun K hK => ?_)
                apply Exists.intro
                refine ⟨fun wq K' hK' => ?_, ?_⟩
                · go_wp2_with fail
                  exact hK'
                go_simp
                refine hK _ ?_
                clear hK K
                refine tree_p rfl rfl rfl rfl _ rfl (by simp) (fun K hK => ?_)
                apply Exists.intro
                refine ⟨fun wq K' hK' => ?_, ?_⟩
                · go_wp2_with fail
                  exact hK'
                go_simp
                refine hK _ ?_
                clear hK K
                refine tree_p rfl rfl rfl rfl _ rfl (by simp) (fun K hK => ?_)
                apply Exists.intro
                refine ⟨fun wq K' hK' => ?_, ?_⟩
                · go_wp2_with fail
                  exact hK'
                go_simp
                refine hK _ ?_
                clear hK K
                refine tree_b rfl rfl rfl rfl _ rfl (by simp) (fun K hK => ?_)
                apply Exists.intro
                refine ⟨fun wq hq K' hK' => ?_, ?_⟩
                · have aa0 := hq.k a0
                  have aa1 := hq.k a1
                  have bb0 := hq.k b0
                  have bb1 := hq.k b1
                  have qq0 := hq.k q0
                  have qq1 := hq.k q1
                  have ss0 := hq.k s0
                  have ss1 := hq.k s1
                  go_wp2_with fail
                  exact hK'
                go_simp
                refine hK _ ?_
                clear hK K
                refine tree_e0 (by kernel_rfl) rfl rfl (fun K hK => ?_)
                go_wp2_with fail
                refine (hMe.out _).mono ?_
                rintro e w13 ⟨rfl, hg13⟩
                go_wp2_with fail
                try go_simp
                refine hK _ _ trivial ?_
                clear hK K
                refine tree_done ?_
                have hg13' := gr_trans hgW2 hg13
                replace hba := hba.pure hg13'
                replace hbb := hbb.pure hg13'
                replace hgc := gr_trans hgc hg13'
                clear a0 a1 b0 b1 s0 s1 q0 q1 hMe hg13 hgW2 hg13'
                cases mm with
                | true =>
                  have hF := hide (hF1.out i hlt (hB.out.trans (any_yes hkn hSm.out)))
                  clear hSm hB
                  go_wp2_with fail
                  go_ret
                  exact ⟨ret_int hF.out.symm, hgc⟩
                | false =>
                  go_wp2_with fail
                  (go_roundw; (case rel => exact ⟨k + 1, by omega, by omega, by go_num, hba, hbb, hgc, fun k' hk' => by
                                              by_cases e : k' < k
                                              · exact hin.out k' e
                                              · rw [show k' = k by omega]; exact hSm.out⟩); (case measure => simp [intOf]; omega))
          · have hB0 : Hid (badI r i = false) := by
              rw [Hid, hB.out]
              exact any_no fun k' hk' => hin.out k' (by omega)
            go_wp2_with fail
            (go_roundw; (case rel => exact ⟨i + 1, by omega, by go_num, hgc, fun i' hi' => by
                              by_cases e : i' < i
                              · exact hall.out i' e
                              · rw [show i' = i by omega]; exact hB0.out⟩); (case measure => simp [intOf]; omega))
      · rw [hf, Bool.true_or] at hB
        have hF := hide (hF1.out i hlt hB.out)
        clear hf hB
        go_wp2_with fail
        go_ret
        exact ⟨ret_int hF.out.symm, hgc⟩
    · have hF := hide (hF0.out fun j hj => hall.out j (by omega))
      go_wp2_with fail
      go_ret
      exact ⟨ret_int hF.out.symm, hg⟩

end Go.Proofs.YtejmbaiioblfeaaGreatDoor
