/- Contracts of functions that this seat's laws reach, each: what one call returns and what it leaves in memory; no condition beyond each theorem's own hypotheses. -/
import Derived.Test.YtjodjdjfagjiaaaMeshQ
import Derived.Test.YtjodjdjfagjiaaaKit3
set_option linter.unusedVariables false
set_option linter.unusedSimpArgs false
namespace Go.Proofs.Ytjodjdjfagjiaaa
open Go.RowKit Go.Bl

theorem max4 (x y : Int) : max (max (max x (-x)) y) (-y) = max (absI x) (absI y) := by unfold absI; omega

set_option maxHeartbeats 2000000 in
set_option maxRecDepth 100000 in
theorem overClo_any (bm bs : Nat) (A : Option Addr) (c : Nat) (vs : List V3) (B : Option Addr) (m d : Nat) (f : Fc) (num den : Int) (w : World) (hl : Sl w 0 A vs) (hf : vs.any farV = false) (hin : inF vs.length f = true)
    (h1 : 0 ≤ num ∧ num ≤ 1000) (h2 : 1 ≤ den ∧ den ≤ 1000)
    (b0 : w.cell? ⟨bm, 0, none⟩ = some (.slice A vs.length c)) (b1 : w.cell? ⟨bm, 1, none⟩ = some (.slice B m d)) (b2 : w.cell? ⟨bs, 0, none⟩ = some (.int .i64 num)) (b3 : w.cell? ⟨bs, 1, none⟩ = some (.int .i64 den)) :
    Calls Try.prog 57 #[.agg #[.int .i64 f.a, .int .i64 f.b, .int .i64 f.c], .pointer (some ⟨bm, 0, none⟩), .pointer (some ⟨bs, 0, none⟩)] w fun e w' => e = .returned (.bool (overB num den (normV vs f))) ∧ w.grownBy w' none := by
  have hm := hl.1
  unfold maxLen at hm
  have hb0 : bm < w.heap.size := cell_lt b0
  have hb1 : bs < w.heap.size := cell_lt b2
  have hb2 : bm < w.heap.size + 1 := by omega
  have hb3 : bs < w.heap.size + 1 := by omega
  have hN := normalRef_any A c vs B m d f (w.alloc (.cells #[.int .i64 f.a, .int .i64 f.b, .int .i64 f.c] 67)) (hl.pure (gr_alloc (World.grownBy.refl _ _) _)) hf hin
  obtain ⟨⟨n1, n2⟩, ⟨n3, n4⟩, n5, n6⟩ := norm_bd hf f
  have hO : Hid (overB num den (normV vs f) = (decide ((normV vs f).z < 0) && decide (max (absI (normV vs f).x) (absI (normV vs f).y) * num < -(normV vs f).z * den))) := rfl
  generalize normV vs f = n at *
  generalize overB num den n = R at *
  replace hN := hide hN
  replace hin := hide hin
  replace hf := hide hf
  have t1 : 0 ≤ max (absI n.x) (absI n.y) ∧ max (absI n.x) (absI n.y) ≤ 80000000000 := by unfold absI; omega
  have t2 := mul_bd4 (K := 80000000000) (L := 1000) (a := -n.z) (b := den) (by omega) (by omega)
  have t3 := mul_bd4 (K := 1000) (L := 80000000000) (a := num) (b := max (absI n.x) (absI n.y)) (by omega) (by omega)
  rw [Int.mul_comm _ num] at hO
  have hx : Hid (max (max (max n.x (-n.x)) n.y) (-n.y) = max (absI n.x) (absI n.y)) := max4 _ _
  generalize max (absI n.x) (absI n.y) = M at *
  have hmx : ∀ (W : World) (ts : Array TypeId) (t : TypeId), (Builtin.max_ ts t #[.int .i64 n.x, .int .i64 (-n.x), .int .i64 n.y, .int .i64 (-n.y)]).run Try.prog W = .ok (.int .i64 M) W := fun W ts t => by rw [run_max4, hx.out]
  go_enter Try.func57, Try.ntmps57
  go_wp2_with fail
  refine hN.out.mono ?_
  rintro e w1 ⟨rfl, hg1⟩
  have hgr : w.grownBy w1 none := gr_trans (gr_alloc (World.grownBy.refl _ _) _) hg1
  replace b0 := hgr.k b0
  replace b1 := hgr.k b1
  replace b2 := hgr.k b2
  replace b3 := hgr.k b3
  have hb2 : bm < w1.heap.size := cell_lt b0
  have hb3 : bs < w1.heap.size := cell_lt b2
  clear hN hg1
  by_cases hz : n.z < 0
  · go_wp2_with fail
    go_ret
    exact ⟨ret_bool (by rw [hO.out]; simp [hz]), gr_alloc hgr _⟩
  · have hz2 := hide (decide_eq_false hz)
    go_wp2_with fail
    go_ret
    exact ⟨ret_bool (by rw [hO.out, hz2.out]; simp), gr_alloc hgr _⟩

theorem run_min3 (W : World) (ts : Array TypeId) (t : TypeId) (k : IntKind) (x y z : Int) : (Builtin.min_ ts t #[.int k x, .int k y, .int k z]).run Try.prog W = .ok (.int k (min (min x y) z)) W := by
  simp only [← ite_min]
  simp [Builtin.min_, Builtin.min2]

set_option maxHeartbeats 2000000 in
set_option maxRecDepth 100000 in
theorem crossClo_any (bm bs : Nat) (A : Option Addr) (c : Nat) (vs : List V3) (B : Option Addr) (m d : Nat) (f : Fc) (z : Int) (w : World) (hl : Sl w 0 A vs) (hin : inF vs.length f = true)
    (b0 : w.cell? ⟨bm, 0, none⟩ = some (.slice A vs.length c)) (b1 : w.cell? ⟨bm, 1, none⟩ = some (.slice B m d)) (b2 : w.cell? ⟨bs, 0, none⟩ = some (.int .i64 z)) :
    Calls Try.prog 58 #[.agg #[.int .i64 f.a, .int .i64 f.b, .int .i64 f.c], .pointer (some ⟨bm, 0, none⟩), .pointer (some ⟨bs, 0, none⟩)] w fun e w' => e = .returned (.bool (crossP z vs f)) ∧ w.grownBy w' none := by
  have hm := hl.1
  unfold maxLen at hm
  have hb0 : bm < w.heap.size := cell_lt b0
  have hb1 : bs < w.heap.size := cell_lt b2
  have hb2 : bm < w.heap.size + 1 := by omega
  have hb3 : bs < w.heap.size + 1 := by omega
  have hN := corners_any A c vs B m d f (w.alloc (.cells #[.int .i64 f.a, .int .i64 f.b, .int .i64 f.c] 67)) (hl.pure (gr_alloc (World.grownBy.refl _ _) _)) hin
  have hO : Hid (crossP z vs f = (decide (min (min (atV vs f.a).z (atV vs f.b).z) (atV vs f.c).z < z) && decide (z ≤ max (max (atV vs f.a).z (atV vs f.b).z) (atV vs f.c).z))) := rfl
  generalize crossP z vs f = R at *
  generalize atV vs f.a = va at *
  generalize atV vs f.b = vb at *
  generalize atV vs f.c = vc at *
  have hmn : ∀ (W : World) (ts : Array TypeId) (t : TypeId), (Builtin.min_ ts t #[.int .i64 va.z, .int .i64 vb.z, .int .i64 vc.z]).run Try.prog W = .ok (.int .i64 (min (min va.z vb.z) vc.z)) W := fun W ts t => run_min3 W ts t .i64 _ _ _
  have hmx : ∀ (W : World) (ts : Array TypeId) (t : TypeId), (Builtin.max_ ts t #[.int .i64 va.z, .int .i64 vb.z, .int .i64 vc.z]).run Try.prog W = .ok (.int .i64 (max (max va.z vb.z) vc.z)) W := fun W ts t => run_max3 W ts t .i64 _ _ _
  generalize min (min va.z vb.z) vc.z = mn at *
  generalize max (max va.z vb.z) vc.z = mx at *
  replace hN := hide hN
  replace hin := hide hin
  go_enter Try.func58, Try.ntmps58
  go_wp2_with fail
  refine hN.out.mono ?_
  rintro e w1 ⟨rfl, hg1⟩
  have hgr : w.grownBy w1 none := gr_trans (gr_alloc (World.grownBy.refl _ _) _) hg1
  replace b0 := hgr.k b0
  replace b1 := hgr.k b1
  replace b2 := hgr.k b2
  have hb2 : bm < w1.heap.size := cell_lt b0
  have hb3 : bs < w1.heap.size := cell_lt b2
  have hb4 : bm < w1.heap.size + 1 := by omega
  have hb5 : bs < w1.heap.size + 1 := by omega
  have hb6 : bm < w1.heap.size + 1 + 1 := by omega
  have hb7 : bs < w1.heap.size + 1 + 1 := by omega
  clear hN hg1
  by_cases hz : mn < z
  · go_wp2_with fail
    go_ret
    exact ⟨ret_bool (by rw [hO.out]; simp [hz]), (by repeat (first | exact World.grownBy.refl _ _ | assumption | refine gr_alloc ?_ _ | (apply gr_tail; assumption) | refine gr_drewN ?_ _ | refine gr_drew ?_))⟩
  · have hz2 := hide (decide_eq_false hz)
    go_wp2_with fail
    go_ret
    exact ⟨ret_bool (by rw [hO.out, hz2.out]; simp), (by repeat (first | exact World.grownBy.refl _ _ | assumption | refine gr_alloc ?_ _ | (apply gr_tail; assumption) | refine gr_drewN ?_ _ | refine gr_drew ?_))⟩

end Go.Proofs.Ytjodjdjfagjiaaa
