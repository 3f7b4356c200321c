/- Contracts of functions that this seat's laws reach, each: what one call returns and what it leaves in memory; no condition beyond each theorem's own hypotheses. -/
import Derived.Test.YtcaaephphefncaaPathN
set_option linter.unusedVariables false
set_option linter.unusedSimpArgs false
namespace Go.Proofs.Ytcaaephphefncaa
open Go.RowKit Go.Bl

set_option maxHeartbeats 800000 in
theorem points_any (A : Option Addr) (c : Nat) (l : List PathV) (v : Vis) (w : World) (hl : Sl w 0 A l) :
    Calls Try.prog 14 #[.slice A l.length c, .agg #[.int .i64 v.path, .int .i64 v.start, .bool v.back]] w fun e w' => ∃ A' c', e = .returned (.tuple #[.slice A' (tPO l v).length c', .int .i64 (oneF l v)]) ∧ Own w' w.heap.size 27 A' c' (tPO l v) ∧ w.grownBy w' none := by
  by_cases hz : oneF l v = 0
  · have hb : (oneF l v != 0) = false := by simp [hz]
    have hv := oneF_zero hz
    have HT : Hid (tPO l v = tP l v) := by rw [Hid]; unfold tPO; rw [if_pos hz]
    have HZ := hide hz
    clear hz
    go_enter Try.func14, Try.ntmps14
    go_wp2_with fail
    refine (oneFault_any _ _ l v _ (hl.pure (gr_alloc (World.grownBy.refl _ _) _))).mono ?_
    rintro e w1 ⟨rfl, hg1⟩
    have b0 := (hg1).k (p := ⟨w.heap.size, 0, none⟩) (v := .int .i64 v.path) (by go_simp)
    have b1 := (hg1).k (p := ⟨w.heap.size, 1, none⟩) (v := .int .i64 v.start) (by go_simp)
    have b2 := (hg1).k (p := ⟨w.heap.size, 2, none⟩) (v := .bool v.back) (by go_simp)
    go_wp2_with fail
    refine (pointsOf_any _ _ l v _ ((hl.pure (gr_alloc (World.grownBy.refl _ _) _)).pure hg1) hv).mono ?_
    rintro e w2 ⟨A', c', rfl, hO, hg2⟩
    have hzz := hg1.size
    simp at hzz
    go_wp2_with fail
    go_ret2
    exact ⟨A', c', by rw [HT.out, HZ.out]; rfl, by rw [HT.out]; exact hO.lower (by omega), (by repeat (first | exact World.grownBy.refl _ _ | assumption | refine gr_alloc ?_ _ | (apply gr_tail; assumption) | refine gr_drewN ?_ _ | refine gr_drew ?_))⟩
  · have hb : (oneF l v != 0) = true := by simp [hz]
    have HT : Hid (tPO l v = []) := by rw [Hid]; unfold tPO; rw [if_neg hz]
    clear hz
    go_enter Try.func14, Try.ntmps14
    go_wp2_with fail
    refine (oneFault_any _ _ l v _ (hl.pure (gr_alloc (World.grownBy.refl _ _) _))).mono ?_
    rintro e w1 ⟨rfl, hg1⟩
    go_wp2_with fail
    go_ret2
    exact ⟨none, 0, by rw [HT.out]; rfl, by rw [HT.out]; exact Own.nil _ _ _, (by repeat (first | exact World.grownBy.refl _ _ | assumption | refine gr_alloc ?_ _ | (apply gr_tail; assumption) | refine gr_drewN ?_ _ | refine gr_drew ?_))⟩

set_option maxHeartbeats 1000000 in
set_option maxRecDepth 100000 in
theorem endsGo_any (A : Option Addr) (c : Nat) (l : List PathV) (v : Vis) (w : World) (hl : Sl w 0 A l) :
    Calls Try.prog 13 #[.slice A l.length c, .agg #[.int .i64 v.path, .int .i64 v.start, .bool v.back]] w fun e w' => e = .returned (.tuple #[.agg #[.int .i64 (eAO l v).x, .int .i64 (eAO l v).y], .agg #[.int .i64 (eBO l v).x, .int .i64 (eBO l v).y], .int .i64 (oneF l v)]) ∧ w.grownBy w' none := by
  have gA := gr_alloc (gr_alloc (gr_alloc (r := none) (World.grownBy.refl w none) (.cells #[.int .i64 v.path, .int .i64 v.start, .bool v.back] 34)) (.cells #[.int .i64 0, .int .i64 0] 27)) (.cells #[.int .i64 0, .int .i64 0] 27)
  have gB := gr_alloc (gr_alloc (r := none) (World.grownBy.refl (w.alloc (.cells #[.int .i64 v.path, .int .i64 v.start, .bool v.back] 34)) none) (.cells #[.int .i64 0, .int .i64 0] 27)) (.cells #[.int .i64 0, .int .i64 0] 27)
  have gC := gr_alloc (r := none) (World.grownBy.refl ((w.alloc (.cells #[.int .i64 v.path, .int .i64 v.start, .bool v.back] 34)).alloc (.cells #[.int .i64 0, .int .i64 0] 27)) none) (.cells #[.int .i64 0, .int .i64 0] 27)
  have V0 := (Cell.new w [.int .i64 v.path, .int .i64 v.start, .bool v.back] 34 0 _ rfl _ rfl).gr gB (by simp)
  have V1 := (Cell.new w [.int .i64 v.path, .int .i64 v.start, .bool v.back] 34 1 _ rfl _ rfl).gr gB (by simp)
  have V2 := (Cell.new w [.int .i64 v.path, .int .i64 v.start, .bool v.back] 34 2 _ rfl _ rfl).gr gB (by simp)
  have A0 := (Cell.new (w.alloc (.cells #[.int .i64 v.path, .int .i64 v.start, .bool v.back] 34)) [.int .i64 0, .int .i64 0] 27 0 _ rfl (w.heap.size + 1) (by simp)).gr gC (by simp)
  have A1 := (Cell.new (w.alloc (.cells #[.int .i64 v.path, .int .i64 v.start, .bool v.back] 34)) [.int .i64 0, .int .i64 0] 27 1 _ rfl (w.heap.size + 1) (by simp)).gr gC (by simp)
  have B0 := Cell.new ((w.alloc (.cells #[.int .i64 v.path, .int .i64 v.start, .bool v.back] 34)).alloc (.cells #[.int .i64 0, .int .i64 0] 27)) [.int .i64 0, .int .i64 0] 27 0 _ rfl (w.heap.size + 1 + 1) (by simp)
  have B1 := Cell.new ((w.alloc (.cells #[.int .i64 v.path, .int .i64 v.start, .bool v.back] 34)).alloc (.cells #[.int .i64 0, .int .i64 0] 27)) [.int .i64 0, .int .i64 0] 27 1 _ rfl (w.heap.size + 1 + 1) (by simp)
  by_cases hz : oneF l v = 0
  · have hb : (oneF l v != 0) = false := by simp [hz]
    have hv := oneF_zero hz
    have HA : Hid (eAO l v = eA l v) := by rw [Hid]; unfold eAO; rw [if_pos hz]
    have HB : Hid (eBO l v = eB l v) := by rw [Hid]; unfold eBO; rw [if_pos hz]
    have HZ := hide hz
    clear hz
    go_enter Try.func13, Try.ntmps13
    go_wp2_with fail
    refine (oneFault_any _ _ l v _ (hl.pure gA)).mono ?_
    rintro e w1 ⟨rfl, hg1⟩
    replace A0 := A0.gr hg1 (by simp)
    replace A1 := A1.gr hg1 (by simp)
    replace B0 := B0.gr hg1 (by simp)
    replace B1 := B1.gr hg1 (by simp)
    obtain ⟨v0, -⟩ := V0.gr hg1 (by simp)
    obtain ⟨v1, -⟩ := V1.gr hg1 (by simp)
    obtain ⟨v2, -⟩ := V2.gr hg1 (by simp)
    have hgw := gr_trans gA hg1
    clear V0 V1 V2 gA gB gC hg1
    go_wp2_with fail
    refine (ends_any _ _ l v _ (hl.pure hgw) hv).mono ?_
    rintro e w2 ⟨rfl, hg2⟩
    have gP := gr_alloc (gr_alloc (r := none) (World.grownBy.refl w2 none) (.cells #[.int .i64 (eA l v).x, .int .i64 (eA l v).y] 27)) (.cells #[.int .i64 (eB l v).x, .int .i64 (eB l v).y] 27)
    have hg3 := gr_trans hg2 gP
    obtain ⟨a0, af0⟩ := A0.gr hg3 (by simp)
    obtain ⟨a1, af1⟩ := A1.gr hg3 (by simp)
    obtain ⟨b0, bf0⟩ := B0.gr hg3 (by simp)
    obtain ⟨b1, bf1⟩ := B1.gr hg3 (by simp)
    have x0 := ((Cell.new w2 [.int .i64 (eA l v).x, .int .i64 (eA l v).y] 27 0 _ rfl _ rfl).gr (gr_alloc (r := none) (World.grownBy.refl _ _) (.cells #[.int .i64 (eB l v).x, .int .i64 (eB l v).y] 27)) (by simp)).1
    have x1 := ((Cell.new w2 [.int .i64 (eA l v).x, .int .i64 (eA l v).y] 27 1 _ rfl _ rfl).gr (gr_alloc (r := none) (World.grownBy.refl _ _) (.cells #[.int .i64 (eB l v).x, .int .i64 (eB l v).y] 27)) (by simp)).1
    have y0 := (Cell.new (w2.alloc (.cells #[.int .i64 (eA l v).x, .int .i64 (eA l v).y] 27)) [.int .i64 (eB l v).x, .int .i64 (eB l v).y] 27 0 _ rfl (w2.heap.size + 1) (by simp)).1
    have y1 := (Cell.new (w2.alloc (.cells #[.int .i64 (eA l v).x, .int .i64 (eA l v).y] 27)) [.int .i64 (eB l v).x, .int .i64 (eB l v).y] 27 1 _ rfl (w2.heap.size + 1) (by simp)).1
    have hw := gr_trans hgw hg3
    have hzB := B0.lt
    have hz2 := hg2.size
    have hn1 : w2.heap.size ≠ w.heap.size + 1 := by omega
    have hn2 : w2.heap.size ≠ w.heap.size + 1 + 1 := by omega
    have hn3 : w2.heap.size + 1 ≠ w.heap.size + 1 := by omega
    have hn4 : w2.heap.size + 1 ≠ w.heap.size + 1 + 1 := by omega
    have hn5 : w2.heap.size ≠ w.heap.size := by omega
    clear A0 A1 B0 B1 hg2 gP hgw hg3 hv
    go_wp2_with fail
    generalize (w2.alloc _).alloc _ = W at *
    go_region
    all_goals
      go_wp2
      refine bodyPost_ret (v := .tuple #[.agg #[.int .i64 (eA l v).x, .int .i64 (eA l v).y], .agg #[.int .i64 (eB l v).x, .int .i64 (eB l v).y], .int .i64 0]) (by simp [results, Try.results13, go_sem, a0, a1, b0, b1, af0, af1, bf0, bf1]) rfl ⟨by rw [HA.out, HB.out, HZ.out], ?_⟩
      exact gr_drew (gr_set (gr_set (gr_set (gr_set hw (.inr (by simp)) _) (.inr (by simp)) _) (.inr (by simp [Nat.add_assoc])) _) (.inr (by simp [Nat.add_assoc])) _)
  · have hb : (oneF l v != 0) = true := by simp [hz]
    have HA : Hid (eAO l v = ⟨0, 0⟩) := by rw [Hid]; unfold eAO; rw [if_neg hz]
    have HB : Hid (eBO l v = ⟨0, 0⟩) := by rw [Hid]; unfold eBO; rw [if_neg hz]
    clear hz
    go_enter Try.func13, Try.ntmps13
    go_wp2_with fail
    refine (oneFault_any _ _ l v _ (hl.pure gA)).mono ?_
    rintro e w1 ⟨rfl, hg1⟩
    obtain ⟨a0, af0⟩ := A0.gr hg1 (by simp)
    obtain ⟨a1, af1⟩ := A1.gr hg1 (by simp)
    obtain ⟨b0, bf0⟩ := B0.gr hg1 (by simp)
    obtain ⟨b1, bf1⟩ := B1.gr hg1 (by simp)
    have hw := gr_trans gA hg1
    clear V0 V1 V2 gA gB gC hg1 A0 A1 B0 B1
    go_wp2_with fail
    refine bodyPost_ret (v := .tuple #[.agg #[.int .i64 0, .int .i64 0], .agg #[.int .i64 0, .int .i64 0], .int .i64 (oneF l v)]) (by simp [results, Try.results13, go_sem, a0, a1, b0, b1, af0, af1, bf0, bf1]) rfl ⟨by rw [HA.out, HB.out], ?_⟩
    exact (gr_set (gr_set (gr_set (gr_set hw (.inr (by simp)) _) (.inr (by simp)) _) (.inr (by simp [Nat.add_assoc])) _) (.inr (by simp [Nat.add_assoc])) _)

end Go.Proofs.Ytcaaephphefncaa
