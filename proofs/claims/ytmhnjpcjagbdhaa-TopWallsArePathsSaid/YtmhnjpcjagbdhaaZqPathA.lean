/- Contracts of functions that this seat's laws reach, each: what one call returns and what it leaves in memory; no condition beyond each theorem's own hypotheses. -/
import Derived.Test.YtmhnjpcjagbdhaaZqStream
import Derived.Test.YtmhnjpcjagbdhaaZqFlowA
import Derived.Test.YtmhnjpcjagbdhaaZqKit3
set_option linter.unusedVariables false
set_option linter.unusedSimpArgs false
namespace Go.Proofs.Ytmhnjpcjagbdhaa
open Go.RowKit Go.Bl

theorem info_pt : (Try.prog.info? 41).map (fun i => (i.zero, i.size, i.bytes)) = some (some (.agg #[.int .i64 0, .int .i64 0]), 2, 16) := by kernel_rfl

theorem info_path : (Try.prog.info? 35).map (fun i => (i.zero, i.size, i.bytes)) = some (some (.agg #[.slice none 0 0, .bool false]), 2, 32) := by kernel_rfl

set_option maxHeartbeats 400000 in
theorem belowZ_any (x : Int) (w : World) :
    Calls Try.prog 64 #[.int .i64 x, .int .i64 0] w fun e w' => e = .returned (.int .i64 0) ∧ w = w' := by
  go_enter Try.func64, Try.ntmps64
  go_wp2
  go_ret
  exact ⟨rfl, rfl⟩

set_option maxHeartbeats 400000 in
theorem nextZ_any (b : Nat) (N : Int) (w : World) (hs : Strm w b N) (hN : N ≤ 1000000000000) :
    Calls Try.prog 45 #[.pointer (some ⟨b, 0, none⟩), .int .i64 0] w (SInt b (N + 1) (fun r => r = 0) w) := by
  have hS := hs
  obtain ⟨A, len, c, k, h0, h1, hf, hk0, hkN, hlen, hel⟩ := hs
  unfold maxLen at hlen
  have hfin : ∀ m, SOut b (N + 1) w ((w.setCell ⟨b, 1, none⟩ (.int .i64 (k + 1))).drewN m) := fun m =>
    ⟨gr_drewN (gr_set (World.grownBy.refl _ _) (.inl rfl) _) m, (hS.set_ (by omega) (by omega)).pure (gr_drewN (World.grownBy.refl _ _) m)⟩
  by_cases hl : len = 0
  · have hl0 : decide (len = 0) = true := by simp [hl]
    have hl2 : ((len : Int) == 0) = true := by simp [hl]
    go_enter Try.func45, Try.ntmps45
    go_wp2_with fail
    refine (belowZ_any _ _).mono ?_
    rintro e w' ⟨rfl, rfl⟩
    go_wp2_with fail
    go_ret
    exact ⟨_, rfl, rfl, hfin 0⟩
  · have hl2 : ((len : Int) == 0) = false := by simp [hl]
    have hm0 : 0 ≤ k % (len : Int) ∧ k % (len : Int) < len := ⟨Int.emod_nonneg _ (by omega), Int.emod_lt_of_pos _ (by omega)⟩
    obtain ⟨i, hi⟩ : ∃ i : Nat, k % (len : Int) = i := ⟨(k % (len : Int)).toNat, by omega⟩
    have hilt : i < len := by omega
    obtain ⟨ad, z, rfl, hne, hz⟩ := hel i hilt
    have hz' : ∀ m, ((w.setCell ⟨b, 1, none⟩ (.int .i64 (k + 1))).drewN m).cell? (ad.add i) = some (.int .i64 z) := fun m =>
      (World.cell?_setCell_other w ⟨b, 1, none⟩ (ad.add i) _ (fun e => by have := congrArg Addr.block e; rw [block_of_add] at this; simp at this; omega)).trans hz
    clear hel hz
    have hq : 0 ≤ k / (len : Int) ∧ k / (len : Int) ≤ k := ⟨Int.ediv_nonneg hk0 (by omega), Int.ediv_le_self _ hk0⟩
    go_enter Try.func45, Try.ntmps45
    go_wp2_with fail
    go_quiet (fail)
    go_wp2_with fail
    go_quiet (fail)
    go_wp2_with fail
    refine (below_any _ _ _ (by omega)).mono ?_
    rintro e w' ⟨rfl, rfl⟩
    go_wp2_with fail
    refine (belowZ_any _ _).mono ?_
    rintro e w' ⟨rfl, rfl⟩
    go_wp2_with fail
    go_ret
    exact ⟨_, rfl, rfl, hfin _⟩

/-- from 0, n may be 0 -/
theorem next0_any (b : Nat) (N : Int) (n : Nat) (w : World) (hs : Strm w b N) (hN : N ≤ 1000000000000) (hn : (n : Int) ≤ 9223372036854775807) :
    Calls Try.prog 45 #[.pointer (some ⟨b, 0, none⟩), .int .i64 n] w (SInt b (N + 1) (fun r => 0 ≤ r ∧ r < max 1 (n : Int)) w) := by
  by_cases h : n = 0
  · subst h
    refine (nextZ_any b N w hs hN).mono ?_
    rintro e w1 ⟨r, rfl, rfl, ho⟩
    exact ⟨0, rfl, ⟨by omega, by omega⟩, ho⟩
  · refine (next_any b N n w hs hN (by omega)).mono ?_
    rintro e w1 ⟨r, rfl, hr, ho⟩
    exact ⟨r, rfl, by omega, ho⟩

def SPt (b : Nat) (N : Int) (w : World) (e : Ending) (w' : World) : Prop := ∃ p : Pt, e = .returned (.agg #[.int .i64 p.x, .int .i64 p.y]) ∧ SOut b N w w'

set_option maxHeartbeats 800000 in
theorem aPoint_any (b : Nat) (N : Int) (w : World) (hs : Strm w b N) (hN : N ≤ 1000000000) :
    Calls Try.prog 47 #[.pointer (some ⟨b, 0, none⟩)] w (SPt b (N + 5) w) := by
  have hbw := hs.lt
  have hg0 := gr_alloc (r := none) (World.grownBy.refl w none) (.cells #[.int .i64 0, .int .i64 0] 41)
  have K0 := Cell.new w [.int .i64 0, .int .i64 0] 41 0 _ rfl _ rfl
  have K1 := Cell.new w [.int .i64 0, .int .i64 0] 41 1 _ rfl _ rfl
  go_enter Try.func47, Try.ntmps47
  go_wp2_with fail
  refine (range_any b N _ _ _ (hs.pure hg0) (by omega) (by omega) (by omega) (by omega)).mono ?_
  rintro e w1 ⟨r1, rfl, _, ho1⟩
  go_wp2_with fail
  refine (range_any b (N + 1) _ _ _ ho1.2 (by omega) (by omega) (by omega) (by omega)).mono ?_
  rintro e w2 ⟨r2, rfl, _, ho2⟩
  have hoA := ho1.trans ho2
  have hz2 := hoA.1.size
  simp at hz2
  have J0 := Cell.new w2 [.int .i64 r1, .int .i64 r2] 41 0 _ rfl _ rfl
  have J1 := Cell.new w2 [.int .i64 r1, .int .i64 r2] 41 1 _ rfl _ rfl
  go_wp2_with fail
  refine (flip_any b (N + 1 + 1) _ _ (hoA.2.pure (gr_alloc (World.grownBy.refl _ _) _)) (by omega) (by omega)).mono ?_
  rintro e w3 ⟨f, rfl, ho3⟩
  have hoB := (hoA.pure (gr_alloc (World.grownBy.refl _ _) (.cells #[.int .i64 r1, .int .i64 r2] 41))).trans ho3
  replace J0 := J0.gr ho3.1 (by simp; omega)
  replace J1 := J1.gr ho3.1 (by simp; omega)
  replace K0 := K0.gr hoB.1 (by simp; omega)
  replace K1 := K1.gr hoB.1 (by simp; omega)
  have hG : SOut b (N + 1 + 1 + 1) w w3 := ⟨gr_trans (gr_any hg0) hoB.1, hoB.2⟩
  clear hg0 ho1 ho2 ho3 hoA hoB hs
  cases f
  · obtain ⟨j0, _⟩ := J0
    obtain ⟨j1, _⟩ := J1
    obtain ⟨k0, f0⟩ := K0
    obtain ⟨k1, f1⟩ := K1
    go_wp2_with fail
    refine bodyPost_ret (v := .agg #[.int .i64 r1, .int .i64 r2]) (by simp [results, Try.results47, go_sem, k0, k1, f0, f1]) rfl ⟨⟨r1, r2⟩, rfl, ?_⟩
    exact ((hG.mono (by omega)).set hbw (Nat.le_refl _) _).set hbw (Nat.le_refl _) _
  · go_wp2_with fail
    refine (odd_any b (N + 1 + 1 + 1) _ _ _ hG.2 (by omega) (by omega) (by omega) (by omega)).mono ?_
    rintro e w4 ⟨r3, rfl, _, ho4⟩
    have hG4 := hG.trans ho4
    have hz3 := hG4.size
    obtain ⟨j0, j0f⟩ := J0.gr ho4.1 (by simp; omega)
    obtain ⟨j1, _⟩ := J1.gr ho4.1 (by simp; omega)
    obtain ⟨k0, f0⟩ := K0.gr ho4.1 (by simp; omega)
    obtain ⟨k1, f1⟩ := K1.gr ho4.1 (by simp; omega)
    have hne : w2.heap.size ≠ w.heap.size := by omega
    go_wp2_with fail
    refine bodyPost_ret (v := .agg #[.int .i64 r3, .int .i64 r2]) (by simp [results, Try.results47, go_sem, k0, k1, f0, f1, hne]) rfl ⟨⟨r3, r2⟩, rfl, ?_⟩
    exact (((hG4.mono (by omega)).set hbw (show w.heap.size ≤ w2.heap.size by omega) _).set hbw (Nat.le_refl _) _).set hbw (Nat.le_refl _) _

end Go.Proofs.Ytmhnjpcjagbdhaa
