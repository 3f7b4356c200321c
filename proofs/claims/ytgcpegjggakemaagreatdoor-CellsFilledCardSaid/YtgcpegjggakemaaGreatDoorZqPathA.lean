/- Contracts of functions that this seat's laws reach, each: what one call returns and what it leaves in memory; no condition beyond each theorem's own hypotheses. -/
import Derived.Test.YtgcpegjggakemaaGreatDoorZqStream
import Derived.Test.YtgcpegjggakemaaGreatDoorZqTree
import Derived.Test.YtgcpegjggakemaaGreatDoorZqKit3
set_option linter.unusedVariables false
set_option linter.unusedSimpArgs false
namespace Go.Proofs.YtgcpegjggakemaaGreatDoor
open Go.RowKit Go.Bl

theorem info_int : (Tryz.prog.info? 3).map (fun i => (i.zero, i.size, i.bytes)) = some (some (.int .i64 0), 1, 8) := by kernel_rfl

set_option maxHeartbeats 400000 in
theorem outside_any (n a b : Int) (w : World) :
    Calls Tryz.prog 56 #[.int .i64 n, .int .i64 a, .int .i64 b] w fun e w' => e = .returned (.bool (outB n a b)) ∧ w = w' := by
  by_cases h1 : n < a
  · go_enter Tryz.func56, Tryz.ntmps56
    go_wp2
    go_ret
    exact ⟨by simp [outB, h1], rfl⟩
  · by_cases h2 : b < n
    · go_enter Tryz.func56, Tryz.ntmps56
      go_wp2
      go_ret
      exact ⟨by simp [outB, h1, h2], rfl⟩
    · go_enter Tryz.func56, Tryz.ntmps56
      go_wp2
      go_ret
      exact ⟨by simp [outB, h1, h2], rfl⟩

set_option maxHeartbeats 400000 in
theorem in_any (n a b : Int) (w : World) :
    Calls Tryz.prog 60 #[.int .i64 n, .int .i64 a, .int .i64 b] w fun e w' => e = .returned (.bool (inB n a b)) ∧ w = w' := by
  by_cases h1 : a ≤ n
  · by_cases h2 : n ≤ b
    · go_enter Tryz.func60, Tryz.ntmps60
      go_wp2
      go_ret
      exact ⟨ret_bool (inB_of h1 h2).symm, rfl⟩
    · have hb := hide (inB_hi (a := a) h2)
      go_enter Tryz.func60, Tryz.ntmps60
      go_wp2
      go_ret
      exact ⟨ret_bool hb.out.symm, rfl⟩
  · have hb := hide (inB_lo (b := b) h1)
    go_enter Tryz.func60, Tryz.ntmps60
    go_wp2
    go_ret
    exact ⟨ret_bool hb.out.symm, rfl⟩

set_option maxHeartbeats 400000 in
theorem truth_any (b : Bool) (w : World) :
    Calls Tryz.prog 88 #[.bool b] w fun e w' => e = .returned (.int .i64 (if b then 1 else 0)) ∧ w = w' := by
  cases b <;> (go_enter Tryz.func88, Tryz.ntmps88; go_wp2; go_ret; exact ⟨rfl, rfl⟩)

end Go.Proofs.YtgcpegjggakemaaGreatDoor

namespace Go.Proofs.YtgcpegjggakemaaGreatDoor
open Go.RowKit Go.Bl

theorem info_pt : (Tryz.prog.info? 30).map (fun i => (i.zero, i.size, i.bytes)) = some (some (.agg #[.int .i64 0, .int .i64 0]), 2, 16) := by kernel_rfl

def SPt (b : Nat) (N : Int) (w : World) (e : Ending) (w' : World) : Prop := ∃ p : Pt, e = .returned (.agg #[.int .i64 p.x, .int .i64 p.y]) ∧ SOut b N w w'

set_option maxHeartbeats 800000 in
theorem aPoint_any (b : Nat) (N : Int) (w : World) (hs : Strm w b N) (hN : N ≤ 1000000000) :
    Calls Tryz.prog 8 #[.pointer (some ⟨b, 0, none⟩)] w (SPt b (N + 5) w) := by
  have hbw := hs.lt
  have hg0 := gr_alloc (r := none) (World.grownBy.refl w none) (.cells #[.int .i64 0, .int .i64 0] 30)
  have K0 := Cell.new w [.int .i64 0, .int .i64 0] 30 0 _ rfl _ rfl
  have K1 := Cell.new w [.int .i64 0, .int .i64 0] 30 1 _ rfl _ rfl
  go_enter Tryz.func8, Tryz.ntmps8
  go_wp2_with fail
  refine (range_any b N _ _ _ (hs.pure hg0) (by omega) (by omega) (by omega) (by omega)).mono ?_
  rintro e w1 ⟨r1, rfl, _, ho1⟩
  go_wp2_with fail
  refine (range_any b (N + 1) _ _ _ ho1.2 (by omega) (by omega) (by omega) (by omega)).mono ?_
  rintro e w2 ⟨r2, rfl, _, ho2⟩
  have hoA := ho1.trans ho2
  have hz2 := hoA.1.size
  simp at hz2
  have J0 := Cell.new w2 [.int .i64 r1, .int .i64 r2] 30 0 _ rfl _ rfl
  have J1 := Cell.new w2 [.int .i64 r1, .int .i64 r2] 30 1 _ rfl _ rfl
  go_wp2_with fail
  refine (flip_any b (N + 1 + 1) _ _ (hoA.2.pure (gr_alloc (World.grownBy.refl _ _) _)) (by omega) (by omega)).mono ?_
  rintro e w3 ⟨f, rfl, ho3⟩
  have hoB := (hoA.pure (gr_alloc (World.grownBy.refl _ _) (.cells #[.int .i64 r1, .int .i64 r2] 30))).trans ho3
  replace J0 := J0.gr ho3.1 (by simp; omega)
  replace J1 := J1.gr ho3.1 (by simp; omega)
  replace K0 := K0.gr hoB.1 (by simp; omega)
  replace K1 := K1.gr hoB.1 (by simp; omega)
  have hG : SOut b (N + 1 + 1 + 1) w w3 := ⟨gr_trans (gr_any hg0) hoB.1, hoB.2⟩
  clear hg0 ho1 ho2 ho3 hoA hoB hs
  cases f
  · obtain ⟨j0, _⟩ := J0
    obtain ⟨j1, _⟩ := J1
    obtain ⟨k0, f0⟩ := K0
    obtain ⟨k1, f1⟩ := K1
    go_wp2_with fail
    refine bodyPost_ret (v := .agg #[.int .i64 r1, .int .i64 r2]) (by simp [results, Tryz.results8, go_sem, k0, k1, f0, f1]) rfl ⟨⟨r1, r2⟩, rfl, ?_⟩
    exact ((hG.mono (by omega)).set hbw (Nat.le_refl _) _).set hbw (Nat.le_refl _) _
  · go_wp2_with fail
    refine (odd_any b (N + 1 + 1 + 1) _ _ _ hG.2 (by omega) (by omega) (by omega) (by omega)).mono ?_
    rintro e w4 ⟨r3, rfl, _, ho4⟩
    have hG4 := hG.trans ho4
    have hz3 := hG4.size
    obtain ⟨j0, j0f⟩ := J0.gr ho4.1 (by simp; omega)
    obtain ⟨j1, _⟩ := J1.gr ho4.1 (by simp; omega)
    obtain ⟨k0, f0⟩ := K0.gr ho4.1 (by simp; omega)
    obtain ⟨k1, f1⟩ := K1.gr ho4.1 (by simp; omega)
    have hne : w2.heap.size ≠ w.heap.size := by omega
    go_wp2_with fail
    refine bodyPost_ret (v := .agg #[.int .i64 r3, .int .i64 r2]) (by simp [results, Tryz.results8, go_sem, k0, k1, f0, f1, hne]) rfl ⟨⟨r3, r2⟩, rfl, ?_⟩
    exact (((hG4.mono (by omega)).set hbw (show w.heap.size ≤ w2.heap.size by omega) _).set hbw (Nat.le_refl _) _).set hbw (Nat.le_refl _) _

end Go.Proofs.YtgcpegjggakemaaGreatDoor
