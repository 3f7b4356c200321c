/- Contracts of functions that this seat's laws reach, each: what one call returns and what it leaves in memory; no condition beyond each theorem's own hypotheses. -/
import Derived.Test.YtjodjdjfagjiaaaMeshL
set_option linter.unusedVariables false
set_option linter.unusedSimpArgs false
namespace Go.Proofs.Ytjodjdjfagjiaaa
open Go.RowKit Go.Bl

def SVec (b : Nat) (N : Int) (w : World) (e : Ending) (w' : World) : Prop := ∃ v : V3, e = .returned (.agg #[.int .i64 v.x, .int .i64 v.y, .int .i64 v.z]) ∧ Bd 1000000000000000 v ∧ SOut b N w w'

set_option maxHeartbeats 2000000 in
theorem aVec_any (b : Nat) (N : Int) (w : World) (hs : Strm w b N) (hN : N ≤ 1000000000) :
    Calls Try.prog 38 #[.pointer (some ⟨b, 0, none⟩)] w (SVec b (N + 6) w) := by
  have hbw := hs.lt
  have ho0 : SOut b N w (w.alloc (.cells #[.int .i64 0, .int .i64 0, .int .i64 0] 49)) := (SOut.refl hs).pure (gr_alloc (World.grownBy.refl _ _) _)
  have q0 := Cell.new w [.int .i64 0, .int .i64 0, .int .i64 0] 49 0 _ rfl _ rfl
  have q1 := Cell.new w [.int .i64 0, .int .i64 0, .int .i64 0] 49 1 _ rfl _ rfl
  have q2 := Cell.new w [.int .i64 0, .int .i64 0, .int .i64 0] 49 2 _ rfl _ rfl
  obtain ⟨W, hW⟩ : ∃ W, W = w.alloc (.cells #[.int .i64 0, .int .i64 0, .int .i64 0] 49) := ⟨_, rfl⟩
  simp only [List.toArray] at q0 q1 q2
  rw [← hW] at ho0 q0 q1 q2
  have hWs : W.heap.size = w.heap.size + 1 := by rw [hW]; simp
  have hoW : SOut b N W W := SOut.refl ho0.2
  have hbW : b < W.heap.size := by omega
  have hne : (some b : Option Nat) ≠ some w.heap.size := by simp; omega
  replace hW := hide hW.symm
  replace q0 := hide q0
  replace q1 := hide q1
  replace q2 := hide q2
  have hWt : Hid (w.heap.size + 1 = W.heap.size) := hWs.symm
  replace hWs := hide hWs
  go_enter Try.func38, Try.ntmps38
  go_wp2_with fail
  rw [hW.out]
  refine (pick_any b (N) _ _ _ [0, 1, 3, -5, 100] _ ((hoW).2.pure (gr_alloc (World.grownBy.refl _ _) _)) (by omega) (sl_intsAt _ _ _ _ _ (by first | rfl | exact hWt.out | simp) (by have := (hoW).lt; omega) (by simp [maxLen])) rfl (by simp)).mono ?_
  rintro e w1 ⟨r1, rfl, hr1, ho1⟩
  have hoA := (hoW.pure (gr_alloc (World.grownBy.refl _ _) _)).trans ho1
  have b1 : Hid (-1000000000000000 ≤ r1 ∧ r1 ≤ 1000000000000000) := by simp at hr1; simp only [Hid]; omega
  clear hr1 ho1
  go_wp2_with fail
  refine (pick_any b (N + 1) _ _ _ [0, 2, -7, 50] _ ((hoA).2.pure (gr_alloc (World.grownBy.refl _ _) _)) (by omega) (sl_intsAt _ _ _ _ _ (by first | rfl | exact hWt.out | simp) (by have := (hoA).lt; omega) (by simp [maxLen])) rfl (by simp)).mono ?_
  rintro e w2 ⟨r2, rfl, hr2, ho2⟩
  have hoB := (hoA.pure (gr_alloc (World.grownBy.refl _ _) _)).trans ho2
  have b2 : Hid (-1000000000000000 ≤ r2 ∧ r2 ≤ 1000000000000000) := by simp at hr2; simp only [Hid]; omega
  clear hr2 ho2
  go_wp2_with fail
  refine (pick_any b (N + 1 + 1) _ _ _ [0, 0, 4, -2, 20] _ ((hoB).2.pure (gr_alloc (World.grownBy.refl _ _) _)) (by omega) (sl_intsAt _ _ _ _ _ (by first | rfl | exact hWt.out | simp) (by have := (hoB).lt; omega) (by simp [maxLen])) rfl (by simp)).mono ?_
  rintro e w3 ⟨r3, rfl, hr3, ho3⟩
  have hoC := (hoB.pure (gr_alloc (World.grownBy.refl _ _) _)).trans ho3
  have b3 : Hid (-1000000000000000 ≤ r3 ∧ r3 ≤ 1000000000000000) := by simp at hr3; simp only [Hid]; omega
  clear hr3 ho3 hoA hoB hoW
  have v0 := Cell.new w3 [.int .i64 r1, .int .i64 r2, .int .i64 r3] 49 0 _ rfl _ rfl
  have v1 := Cell.new w3 [.int .i64 r1, .int .i64 r2, .int .i64 r3] 49 1 _ rfl _ rfl
  have v2 := Cell.new w3 [.int .i64 r1, .int .i64 r2, .int .i64 r3] 49 2 _ rfl _ rfl
  have hbe := hoC.1.size
  have hne3 : (some b : Option Nat) ≠ some w3.heap.size := by simp; omega
  go_wp2_with fail
  refine (flip_any b (N + 1 + 1 + 1) _ _ (hoC.2.pure (gr_alloc (World.grownBy.refl _ _) _)) (by omega) (by omega)).mono ?_
  rintro e w4 ⟨r4, rfl, ho4⟩
  have hoD := (hoC.pure (gr_alloc (World.grownBy.refl _ _) _)).trans ho4
  obtain ⟨d0, f0⟩ := v0.gr ho4.1 hne3
  obtain ⟨d1, f1⟩ := v1.gr ho4.1 hne3
  obtain ⟨d2, f2⟩ := v2.gr ho4.1 hne3
  cases r4 with
  | false =>
    obtain ⟨c0, g0⟩ := q0.out.gr hoD.1 hne
    obtain ⟨c1, g1⟩ := q1.out.gr hoD.1 hne
    obtain ⟨c2, g2⟩ := q2.out.gr hoD.1 hne
    clear hoC ho4
    go_wp2_with fail
    exact bodyPost_ret (v := .agg #[.int .i64 r1, .int .i64 r2, .int .i64 r3]) (by simp [results, Try.results38, go_sem, c0, g0, c1, g1, c2, g2]) rfl ⟨⟨r1, r2, r3⟩, rfl, ⟨b1.out, b2.out, b3.out⟩, (((ho0.trans hoD).mono (by omega)).set hbw (Nat.le_refl _) _ |>.set hbw (Nat.le_refl _) _).set hbw (Nat.le_refl _) _⟩
  | true =>
    go_wp2_with fail
    refine (odd_any b (N + 1 + 1 + 1 + 1) _ _ _ hoD.2 (by omega) (by omega) (by omega) (by omega)).mono ?_
    rintro e w5 ⟨r5, rfl, hr5, ho5⟩
    have hoE := hoD.trans ho5
    obtain ⟨d0, f0⟩ := (v0.gr ho4.1 hne3).gr ho5.1 hne3
    obtain ⟨d1, f1⟩ := (v1.gr ho4.1 hne3).gr ho5.1 hne3
    obtain ⟨d2, f2⟩ := (v2.gr ho4.1 hne3).gr ho5.1 hne3
    obtain ⟨c0, g0⟩ := q0.out.gr hoE.1 hne
    obtain ⟨c1, g1⟩ := q1.out.gr hoE.1 hne
    obtain ⟨c2, g2⟩ := q2.out.gr hoE.1 hne
    have hne5 : w3.heap.size ≠ w.heap.size := by have := hWt.out; omega
    have hne6 : w.heap.size ≠ w3.heap.size := by omega
    have hle : w.heap.size ≤ w3.heap.size := by have := hWt.out; omega
    clear hoC ho4 hoD ho5
    replace hr5 := hide hr5
    go_wp2_with fail
    exact bodyPost_ret (v := .agg #[.int .i64 r5, .int .i64 r2, .int .i64 r3]) (by simp [results, Try.results38, go_sem, c0, g0, c1, g1, c2, g2, hne5, hne6]) rfl ⟨⟨r5, r2, r3⟩, rfl, ⟨hr5.out, b2.out, b3.out⟩, ((((ho0.trans hoE).mono (by omega)).set hbw hle _ |>.set hbw (Nat.le_refl _) _).set hbw (Nat.le_refl _) _).set hbw (Nat.le_refl _) _⟩

end Go.Proofs.Ytjodjdjfagjiaaa
