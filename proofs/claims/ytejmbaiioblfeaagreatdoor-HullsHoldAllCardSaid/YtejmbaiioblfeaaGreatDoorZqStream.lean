/- Contracts of functions that this seat's laws reach, each: what one call returns and what it leaves in memory; no condition beyond each theorem's own hypotheses. -/
import Derived.Test.YtejmbaiioblfeaaGreatDoorRows
import Derived.Test.YtejmbaiioblfeaaGreatDoorZqTree
set_option linter.unusedVariables false
set_option linter.unusedSimpArgs false
namespace Go.Proofs.YtejmbaiioblfeaaGreatDoor
open Go.RowKit Go.Bl

set_option maxHeartbeats 400000 in
theorem below_any (x n : Int) (w : World) (hn : 1 ≤ n ∧ n ≤ 9223372036854775807) :
    Calls Tryz.prog 39 #[.int .i64 x, .int .i64 n] w fun e w' => e = .returned (.int .i64 (x % n)) ∧ w = w' := by
  have hb := tmod_bd x hn.1
  go_enter Tryz.func39, Tryz.ntmps39
  go_wp2
  · have h : x.tmod n < 0 := by assumption
    have h2 := tmod_neg h hn.1
    go_ret
    exact ⟨by simp [h2], rfl⟩
  · have h : 0 ≤ x.tmod n := by assumption
    have h2 := tmod_pos h hn.1
    go_ret
    exact ⟨by simp [h2], rfl⟩

def SInt (b : Nat) (N : Int) (P : Int → Prop) (w : World) (e : Ending) (w' : World) : Prop := ∃ r, e = .returned (.int .i64 r) ∧ P r ∧ SOut b N w w'

def SBool (b : Nat) (N : Int) (w : World) (e : Ending) (w' : World) : Prop := ∃ r, e = .returned (.bool r) ∧ SOut b N w w'

set_option maxHeartbeats 400000 in
theorem next_any (b : Nat) (N n : Int) (w : World) (hs : Strm w b N) (hN : N ≤ 1000000000000) (hn : 1 ≤ n ∧ n ≤ 9223372036854775807) :
    Calls Tryz.prog 10 #[.pointer (some ⟨b, 0, none⟩), .int .i64 n] w (SInt b (N + 1) (fun r => 0 ≤ r ∧ r < n) w) := by
  have hS := hs
  obtain ⟨A, len, c, k, h0, h1, hf, hk0, hkN, hlen, hel⟩ := hs
  unfold maxLen at hlen
  have hw : ∀ z : Int, 0 ≤ z % n ∧ z % n < n := fun z => ⟨Int.emod_nonneg _ (by omega), Int.emod_lt_of_pos _ (by omega)⟩
  have hfin : ∀ m, SOut b (N + 1) w ((w.setCell ⟨b, 1, none⟩ (.int .i64 (k + 1))).drewN m) := fun m =>
    ⟨gr_drewN (gr_set (World.grownBy.refl _ _) (.inl rfl) _) m, (hS.set_ (by omega) (by omega)).pure (gr_drewN (World.grownBy.refl _ _) m)⟩
  by_cases hl : len = 0
  · have hl0 : decide (len = 0) = true := by simp [hl]
    have hl2 : ((len : Int) == 0) = true := by simp [hl]
    go_enter Tryz.func10, Tryz.ntmps10
    go_wp2_with fail
    refine (below_any _ _ _ (by omega)).mono ?_
    rintro e w' ⟨rfl, rfl⟩
    go_wp2_with fail
    go_ret
    exact ⟨_, rfl, hw _, hfin 0⟩
  · have hl2 : ((len : Int) == 0) = false := by simp [hl]
    have hm0 : 0 ≤ k % (len : Int) ∧ k % (len : Int) < len := ⟨Int.emod_nonneg _ (by omega), Int.emod_lt_of_pos _ (by omega)⟩
    obtain ⟨i, hi⟩ : ∃ i : Nat, k % (len : Int) = i := ⟨(k % (len : Int)).toNat, by omega⟩
    have hilt : i < len := by omega
    obtain ⟨ad, z, rfl, hne, hz⟩ := hel i hilt
    have hz' : ∀ m, ((w.setCell ⟨b, 1, none⟩ (.int .i64 (k + 1))).drewN m).cell? (ad.add i) = some (.int .i64 z) := fun m =>
      (World.cell?_setCell_other w ⟨b, 1, none⟩ (ad.add i) _ (fun e => by have := congrArg Addr.block e; rw [block_of_add] at this; simp at this; omega)).trans hz
    clear hel hz
    have hq : 0 ≤ k / (len : Int) ∧ k / (len : Int) ≤ k := ⟨Int.ediv_nonneg hk0 (by omega), Int.ediv_le_self _ hk0⟩
    go_enter Tryz.func10, Tryz.ntmps10
    go_wp2_with fail
    go_quiet (fail)
    go_wp2_with fail
    go_quiet (fail)
    go_wp2_with fail
    refine (below_any _ _ _ (by omega)).mono ?_
    rintro e w' ⟨rfl, rfl⟩
    go_wp2_with fail
    refine (below_any _ _ _ (by omega)).mono ?_
    rintro e w' ⟨rfl, rfl⟩
    go_wp2_with fail
    go_ret
    exact ⟨_, rfl, hw _, hfin _⟩

set_option maxHeartbeats 400000 in
theorem range_any (b : Nat) (N lo hi : Int) (w : World) (hs : Strm w b N) (hN : N ≤ 1000000000000) (h1 : lo ≤ hi) (h2 : -1000000000000000 ≤ lo) (h3 : hi ≤ 1000000000000000) :
    Calls Tryz.prog 29 #[.pointer (some ⟨b, 0, none⟩), .int .i64 lo, .int .i64 hi] w (SInt b (N + 1) (fun r => lo ≤ r ∧ r ≤ hi) w) := by
  go_enter Tryz.func29, Tryz.ntmps29
  go_wp2_with fail
  refine (next_any b N _ _ hs hN (by omega)).mono ?_
  rintro e w1 ⟨r, rfl, hr, ho⟩
  go_wp2_with fail
  go_ret
  exact ⟨_, rfl, by omega, ho⟩

set_option maxHeartbeats 400000 in
theorem flip_any (b : Nat) (N n : Int) (w : World) (hs : Strm w b N) (hN : N ≤ 1000000000000) (hn : 1 ≤ n ∧ n ≤ 9223372036854775807) :
    Calls Tryz.prog 12 #[.pointer (some ⟨b, 0, none⟩), .int .i64 n] w (SBool b (N + 1) w) := by
  go_enter Tryz.func12, Tryz.ntmps12
  go_wp2_with fail
  refine (next_any b N _ _ hs hN (by omega)).mono ?_
  rintro e w1 ⟨r, rfl, hr, ho⟩
  go_wp2_with fail
  go_ret
  exact ⟨_, rfl, ho⟩

set_option maxHeartbeats 400000 in
theorem pick_any (b : Nat) (N : Int) (A : Option Addr) (n c : Nat) (l : List Int) (w : World) (hs : Strm w b N) (hN : N ≤ 1000000000000) (hl : Sl w (b + 1) A l) (hn : l.length = n) (h0 : 0 < n) :
    Calls Tryz.prog 70 #[.pointer (some ⟨b, 0, none⟩), .slice A n c] w (SInt b (N + 1) (fun r => r ∈ l) w) := by
  have hm := hl.1
  unfold maxLen at hm
  subst hn
  go_enter Tryz.func70, Tryz.ntmps70
  go_wp2_with fail
  refine (next_any b N _ _ hs hN (by omega)).mono ?_
  rintro e w1 ⟨r, rfl, ⟨hr0, hr1⟩, ho⟩
  obtain ⟨i, rfl⟩ := Int.eq_ofNat_of_zero_le hr0
  have hi : i < l.length := by omega
  obtain ⟨g, o, c1, rfl, hb0, hb1, rfl, hc⟩ := (hl.gr ho.1 (fun g e => by cases e; omega)).at_ (by decide) hi
  have c0 : w1.cell? ⟨g, o + i, none⟩ = some (.int .i64 l[i]) := by have := hc 0 _ rfl; rwa [show Enc.sz Int = 1 from rfl, Nat.mul_one] at this
  clear hc
  go_wp2_with fail
  go_ret
  exact ⟨_, rfl, List.getElem_mem _, ho⟩

set_option maxHeartbeats 400000 in
theorem odd_any (b : Nat) (N lo hi : Int) (w : World) (hs : Strm w b N) (hN : N ≤ 100000000000) (h1 : lo ≤ hi) (h2 : -100000000000000 ≤ lo) (h3 : hi ≤ 100000000000000) :
    Calls Tryz.prog 30 #[.pointer (some ⟨b, 0, none⟩), .int .i64 lo, .int .i64 hi] w (SInt b (N + 2) (fun r => -1000000000000000 ≤ r ∧ r ≤ 1000000000000000) w) := by
  go_enter Tryz.func30, Tryz.ntmps30
  go_wp2_with fail
  refine (flip_any b N _ _ hs (by omega) (by omega)).mono ?_
  rintro e w1 ⟨r, rfl, ho⟩
  rcases r with _ | _
  · go_wp2_with fail
    refine (range_any b (N + 1) _ _ _ ho.2 (by omega) h1 (by omega) (by omega)).mono ?_
    rintro e w2 ⟨r, rfl, hr, ho2⟩
    go_wp2_with fail
    go_ret
    exact ⟨_, rfl, by omega, gr_trans ho.1 ho2.1, by have := ho2.2; rwa [Int.add_assoc] at this⟩
  · go_wp2_with fail
    refine (pick_any b (N + 1) _ _ _ [lo - 1, hi + 1, lo, hi, -1099511627776, 1099511627776] _ (ho.2.pure (gr_alloc (World.grownBy.refl _ _) _)) (by omega) (sl_ints _ _ _ _ ho.2.lt (by simp [maxLen])) rfl (by simp)).mono ?_
    rintro e w2 ⟨r, rfl, hr, ho2⟩
    go_wp2_with fail
    go_ret
    exact ⟨_, rfl, by simp at hr; omega, gr_trans (gr_alloc ho.1 _) ho2.1, by have := ho2.2; rwa [Int.add_assoc] at this⟩

end Go.Proofs.YtejmbaiioblfeaaGreatDoor
