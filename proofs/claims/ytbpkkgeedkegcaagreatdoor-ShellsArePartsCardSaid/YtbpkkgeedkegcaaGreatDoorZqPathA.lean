/- Contracts of functions that this seat's laws reach, each: what one call returns and what it leaves in memory; no condition beyond each theorem's own hypotheses. -/
import Derived.Test.YtbpkkgeedkegcaaGreatDoorZqStream
import Derived.Test.YtbpkkgeedkegcaaGreatDoorZqFlowA
import Derived.Test.YtbpkkgeedkegcaaGreatDoorZqGpLib
set_option linter.unusedVariables false
set_option linter.unusedSimpArgs false
namespace Go.Proofs.YtbpkkgeedkegcaaGreatDoor
open Go.RowKit Go.Bl

theorem info_pt : (Tryz.prog.info? 75).map (fun i => (i.zero, i.size, i.bytes)) = some (some (.agg #[.int .i64 0, .int .i64 0]), 2, 16) := by kernel_rfl

set_option maxHeartbeats 400000 in
theorem belowZ_any (x : Int) (w : World) :
    Calls Tryz.prog 76 #[.int .i64 x, .int .i64 0] w fun e w' => e = .returned (.int .i64 0) ∧ w = w' := by
  go_enter Tryz.func76, Tryz.ntmps76
  go_wp2
  go_ret
  exact ⟨rfl, rfl⟩

set_option maxHeartbeats 400000 in
theorem nextZ_any (b : Nat) (N : Int) (w : World) (hs : Strm w b N) (hN : N ≤ 1000000000000) :
    Calls Tryz.prog 38 #[.pointer (some ⟨b, 0, none⟩), .int .i64 0] w (SInt b (N + 1) (fun r => r = 0) w) := by
  have hS := hs
  obtain ⟨A, len, c, k, h0, h1, hf, hk0, hkN, hlen, hel⟩ := hs
  unfold maxLen at hlen
  have hfin : ∀ m, SOut b (N + 1) w ((w.setCell ⟨b, 1, none⟩ (.int .i64 (k + 1))).drewN m) := fun m =>
    ⟨gr_drewN (gr_set (World.grownBy.refl _ _) (.inl rfl) _) m, (hS.set_ (by omega) (by omega)).pure (gr_drewN (World.grownBy.refl _ _) m)⟩
  by_cases hl : len = 0
  · have hl0 : decide (len = 0) = true := by simp [hl]
    have hl2 : ((len : Int) == 0) = true := by simp [hl]
    go_enter Tryz.func38, Tryz.ntmps38
    go_wp2_with fail
    refine (belowZ_any _ _).mono ?_
    rintro e w' ⟨rfl, rfl⟩
    go_wp2_with fail
    go_ret
    exact ⟨_, rfl, rfl, hfin 0⟩
  · have hl2 : ((len : Int) == 0) = false := by simp [hl]
    have hm0 : 0 ≤ k % (len : Int) ∧ k % (len : Int) < len := ⟨Int.emod_nonneg _ (by omega), Int.emod_lt_of_pos _ (by omega)⟩
    obtain ⟨i, hi⟩ : ∃ i : Nat, k % (len : Int) = i := ⟨(k % (len : Int)).toNat, by omega⟩
    have hilt : i < len := by omega
    obtain ⟨ad, z, rfl, hne, hz⟩ := hel i hilt
    have hz' : ∀ m, ((w.setCell ⟨b, 1, none⟩ (.int .i64 (k + 1))).drewN m).cell? (ad.add i) = some (.int .i64 z) := fun m =>
      (World.cell?_setCell_other w ⟨b, 1, none⟩ (ad.add i) _ (fun e => by have := congrArg Addr.block e; rw [block_of_add] at this; simp at this; omega)).trans hz
    clear hel hz
    have hq : 0 ≤ k / (len : Int) ∧ k / (len : Int) ≤ k := ⟨Int.ediv_nonneg hk0 (by omega), Int.ediv_le_self _ hk0⟩
    go_enter Tryz.func38, Tryz.ntmps38
    go_wp2_with fail
    go_quiet (fail)
    go_wp2_with fail
    go_quiet (fail)
    go_wp2_with fail
    refine (below_any _ _ _ (by omega)).mono ?_
    rintro e w' ⟨rfl, rfl⟩
    go_wp2_with fail
    refine (belowZ_any _ _).mono ?_
    rintro e w' ⟨rfl, rfl⟩
    go_wp2_with fail
    go_ret
    exact ⟨_, rfl, rfl, hfin _⟩

/-- from 0, n may be 0 -/
theorem next0_any (b : Nat) (N : Int) (n : Nat) (w : World) (hs : Strm w b N) (hN : N ≤ 1000000000000) (hn : (n : Int) ≤ 9223372036854775807) :
    Calls Tryz.prog 38 #[.pointer (some ⟨b, 0, none⟩), .int .i64 n] w (SInt b (N + 1) (fun r => 0 ≤ r ∧ r < max 1 (n : Int)) w) := by
  by_cases h : n = 0
  · subst h
    refine (nextZ_any b N w hs hN).mono ?_
    rintro e w1 ⟨r, rfl, rfl, ho⟩
    exact ⟨0, rfl, ⟨by omega, by omega⟩, ho⟩
  · refine (next_any b N n w hs hN (by omega)).mono ?_
    rintro e w1 ⟨r, rfl, hr, ho⟩
    exact ⟨r, rfl, by omega, ho⟩

def SPt (b : Nat) (N : Int) (w : World) (e : Ending) (w' : World) : Prop := ∃ p : Pt, e = .returned (.agg #[.int .i64 p.x, .int .i64 p.y]) ∧ SOut b N w w'

end Go.Proofs.YtbpkkgeedkegcaaGreatDoor
