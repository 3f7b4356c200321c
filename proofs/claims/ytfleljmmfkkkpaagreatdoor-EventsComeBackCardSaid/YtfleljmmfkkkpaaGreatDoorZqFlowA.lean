/- Contracts of functions that this seat's laws reach, each: what one call returns and what it leaves in memory; no condition beyond each theorem's own hypotheses. -/
import Derived.Test.YtfleljmmfkkkpaaGreatDoorRows
import Derived.Test.YtfleljmmfkkkpaaGreatDoorZqTree
set_option linter.unusedVariables false
set_option linter.unusedSimpArgs false
namespace Go.Proofs.YtfleljmmfkkkpaaGreatDoor
open Go.RowKit Go.Bl

set_option maxHeartbeats 400000 in
theorem below_any (x n : Int) (w : World) (hn : 1 ≤ n ∧ n ≤ 9223372036854775807) :
    Calls Tryz.prog 59 #[.int .i64 x, .int .i64 n] w fun e w' => e = .returned (.int .i64 (x % n)) ∧ w = w' := by
  have hb := tmod_bd x hn.1
  go_enter Tryz.func59, Tryz.ntmps59
  go_wp2
  · have h : x.tmod n < 0 := by assumption
    have h2 := tmod_neg h hn.1
    go_ret
    exact ⟨by simp [h2], rfl⟩
  · have h : 0 ≤ x.tmod n := by assumption
    have h2 := tmod_pos h hn.1
    go_ret
    exact ⟨by simp [h2], rfl⟩

def SInt (b : Nat) (N : Int) (P : Int → Prop) (w : World) (e : Ending) (w' : World) : Prop := ∃ r, e = .returned (.int .i64 r) ∧ P r ∧ SOut b N w w'

def SBool (b : Nat) (N : Int) (w : World) (e : Ending) (w' : World) : Prop := ∃ r, e = .returned (.bool r) ∧ SOut b N w w'

set_option maxHeartbeats 400000 in
theorem next_any (b : Nat) (N n : Int) (w : World) (hs : Strm w b N) (hN : N ≤ 1000000000000) (hn : 1 ≤ n ∧ n ≤ 9223372036854775807) :
    Calls Tryz.prog 30 #[.pointer (some ⟨b, 0, none⟩), .int .i64 n] w (SInt b (N + 1) (fun r => 0 ≤ r ∧ r < n) w) := by
  have hS := hs
  obtain ⟨A, len, c, k, h0, h1, hf, hk0, hkN, hlen, hel⟩ := hs
  unfold maxLen at hlen
  have hw : ∀ z : Int, 0 ≤ z % n ∧ z % n < n := fun z => ⟨Int.emod_nonneg _ (by omega), Int.emod_lt_of_pos _ (by omega)⟩
  have hfin : ∀ m, SOut b (N + 1) w ((w.setCell ⟨b, 1, none⟩ (.int .i64 (k + 1))).drewN m) := fun m =>
    ⟨gr_drewN (gr_set (World.grownBy.refl _ _) (.inl rfl) _) m, (hS.set_ (by omega) (by omega)).pure (gr_drewN (World.grownBy.refl _ _) m)⟩
  by_cases hl : len = 0
  · have hl0 : decide (len = 0) = true := by simp [hl]
    have hl2 : ((len : Int) == 0) = true := by simp [hl]
    go_enter Tryz.func30, Tryz.ntmps30
    go_wp2_with fail
    refine (below_any _ _ _ (by omega)).mono ?_
    rintro e w' ⟨rfl, rfl⟩
    go_wp2_with fail
    go_ret
    exact ⟨_, rfl, hw _, hfin 0⟩
  · have hl2 : ((len : Int) == 0) = false := by simp [hl]
    have hm0 : 0 ≤ k % (len : Int) ∧ k % (len : Int) < len := ⟨Int.emod_nonneg _ (by omega), Int.emod_lt_of_pos _ (by omega)⟩
    obtain ⟨i, hi⟩ : ∃ i : Nat, k % (len : Int) = i := ⟨(k % (len : Int)).toNat, by omega⟩
    have hilt : i < len := by omega
    obtain ⟨ad, z, rfl, hne, hz⟩ := hel i hilt
    have hz' : ∀ m, ((w.setCell ⟨b, 1, none⟩ (.int .i64 (k + 1))).drewN m).cell? (ad.add i) = some (.int .i64 z) := fun m =>
      (World.cell?_setCell_other w ⟨b, 1, none⟩ (ad.add i) _ (fun e => by have := congrArg Addr.block e; rw [block_of_add] at this; simp at this; omega)).trans hz
    clear hel hz
    have hq : 0 ≤ k / (len : Int) ∧ k / (len : Int) ≤ k := ⟨Int.ediv_nonneg hk0 (by omega), Int.ediv_le_self _ hk0⟩
    go_enter Tryz.func30, Tryz.ntmps30
    go_wp2_with fail
    go_quiet (fail)
    go_wp2_with fail
    go_quiet (fail)
    go_wp2_with fail
    refine (below_any _ _ _ (by omega)).mono ?_
    rintro e w' ⟨rfl, rfl⟩
    go_wp2_with fail
    refine (below_any _ _ _ (by omega)).mono ?_
    rintro e w' ⟨rfl, rfl⟩
    go_wp2_with fail
    go_ret
    exact ⟨_, rfl, hw _, hfin _⟩

set_option maxHeartbeats 400000 in
theorem range_any (b : Nat) (N lo hi : Int) (w : World) (hs : Strm w b N) (hN : N ≤ 1000000000000) (h1 : lo ≤ hi) (h2 : -1000000000000000 ≤ lo) (h3 : hi ≤ 1000000000000000) :
    Calls Tryz.prog 27 #[.pointer (some ⟨b, 0, none⟩), .int .i64 lo, .int .i64 hi] w (SInt b (N + 1) (fun r => lo ≤ r ∧ r ≤ hi) w) := by
  go_enter Tryz.func27, Tryz.ntmps27
  go_wp2_with fail
  refine (next_any b N _ _ hs hN (by omega)).mono ?_
  rintro e w1 ⟨r, rfl, hr, ho⟩
  go_wp2_with fail
  go_ret
  exact ⟨_, rfl, by omega, ho⟩

set_option maxHeartbeats 400000 in
theorem flip_any (b : Nat) (N n : Int) (w : World) (hs : Strm w b N) (hN : N ≤ 1000000000000) (hn : 1 ≤ n ∧ n ≤ 9223372036854775807) :
    Calls Tryz.prog 29 #[.pointer (some ⟨b, 0, none⟩), .int .i64 n] w (SBool b (N + 1) w) := by
  go_enter Tryz.func29, Tryz.ntmps29
  go_wp2_with fail
  refine (next_any b N _ _ hs hN (by omega)).mono ?_
  rintro e w1 ⟨r, rfl, hr, ho⟩
  go_wp2_with fail
  go_ret
  exact ⟨_, rfl, ho⟩

set_option maxHeartbeats 400000 in
theorem pick_any (b : Nat) (N : Int) (A : Option Addr) (n c : Nat) (l : List Int) (w : World) (hs : Strm w b N) (hN : N ≤ 1000000000000) (hl : Sl w (b + 1) A l) (hn : l.length = n) (h0 : 0 < n) :
    Calls Tryz.prog 22 #[.pointer (some ⟨b, 0, none⟩), .slice A n c] w (SInt b (N + 1) (fun r => r ∈ l) w) := by
  have hm := hl.1
  unfold maxLen at hm
  subst hn
  go_enter Tryz.func22, Tryz.ntmps22
  go_wp2_with fail
  refine (next_any b N _ _ hs hN (by omega)).mono ?_
  rintro e w1 ⟨r, rfl, ⟨hr0, hr1⟩, ho⟩
  obtain ⟨i, rfl⟩ := Int.eq_ofNat_of_zero_le hr0
  have hi : i < l.length := by omega
  obtain ⟨g, o, c1, rfl, hb0, hb1, rfl, hc⟩ := (hl.gr ho.1 (fun g e => by cases e; omega)).at_ (by decide) hi
  have c0 : w1.cell? ⟨g, o + i, none⟩ = some (.int .i64 l[i]) := by have := hc 0 _ rfl; rwa [show Enc.sz Int = 1 from rfl, Nat.mul_one] at this
  clear hc
  go_wp2_with fail
  go_ret
  exact ⟨_, rfl, List.getElem_mem _, ho⟩

set_option maxHeartbeats 400000 in
theorem odd_any (b : Nat) (N lo hi : Int) (w : World) (hs : Strm w b N) (hN : N ≤ 100000000000) (h1 : lo ≤ hi) (h2 : -100000000000000 ≤ lo) (h3 : hi ≤ 100000000000000) :
    Calls Tryz.prog 31 #[.pointer (some ⟨b, 0, none⟩), .int .i64 lo, .int .i64 hi] w (SInt b (N + 2) (fun r => -1000000000000000 ≤ r ∧ r ≤ 1000000000000000) w) := by
  go_enter Tryz.func31, Tryz.ntmps31
  go_wp2_with fail
  refine (flip_any b N _ _ hs (by omega) (by omega)).mono ?_
  rintro e w1 ⟨r, rfl, ho⟩
  rcases r with _ | _
  · go_wp2_with fail
    refine (range_any b (N + 1) _ _ _ ho.2 (by omega) h1 (by omega) (by omega)).mono ?_
    rintro e w2 ⟨r, rfl, hr, ho2⟩
    go_wp2_with fail
    go_ret
    exact ⟨_, rfl, by omega, gr_trans ho.1 ho2.1, by have := ho2.2; rwa [Int.add_assoc] at this⟩
  · go_wp2_with fail
    refine (pick_any b (N + 1) _ _ _ [lo - 1, hi + 1, lo, hi, -1099511627776, 1099511627776] _ (ho.2.pure (gr_alloc (World.grownBy.refl _ _) _)) (by omega) (sl_ints _ _ _ _ ho.2.lt (by simp [maxLen])) rfl (by simp)).mono ?_
    rintro e w2 ⟨r, rfl, hr, ho2⟩
    go_wp2_with fail
    go_ret
    exact ⟨_, rfl, by simp at hr; omega, gr_trans (gr_alloc ho.1 _) ho2.1, by have := ho2.2; rwa [Int.add_assoc] at this⟩

end Go.Proofs.YtfleljmmfkkkpaaGreatDoor

namespace Go.Proofs.YtfleljmmfkkkpaaGreatDoor
open Go.RowKit Go.Bl

theorem info_int : (Tryz.prog.info? 3).map (fun i => (i.zero, i.size, i.bytes)) = some (some (.int .i64 0), 1, 8) := by kernel_rfl

theorem info_bead : (Tryz.prog.info? 69).map (fun i => (i.zero, i.size, i.bytes)) = some (some (.agg #[.int .i64 0, .int .i64 0, .int .i64 0]), 3, 24) := by kernel_rfl

set_option maxHeartbeats 400000 in
theorem outside_any (n a b : Int) (w : World) :
    Calls Tryz.prog 63 #[.int .i64 n, .int .i64 a, .int .i64 b] w fun e w' => e = .returned (.bool (outB n a b)) ∧ w = w' := by
  by_cases h1 : n < a
  · go_enter Tryz.func63, Tryz.ntmps63
    go_wp2
    go_ret
    exact ⟨by simp [outB, h1], rfl⟩
  · by_cases h2 : b < n
    · go_enter Tryz.func63, Tryz.ntmps63
      go_wp2
      go_ret
      exact ⟨by simp [outB, h1, h2], rfl⟩
    · go_enter Tryz.func63, Tryz.ntmps63
      go_wp2
      go_ret
      exact ⟨by simp [outB, h1, h2], rfl⟩

set_option maxHeartbeats 400000 in
theorem in_any (n a b : Int) (w : World) :
    Calls Tryz.prog 34 #[.int .i64 n, .int .i64 a, .int .i64 b] w fun e w' => e = .returned (.bool (inB n a b)) ∧ w = w' := by
  by_cases h1 : a ≤ n
  · by_cases h2 : n ≤ b
    · go_enter Tryz.func34, Tryz.ntmps34
      go_wp2
      go_ret
      exact ⟨ret_bool (inB_of h1 h2).symm, rfl⟩
    · have hb := hide (inB_hi (a := a) h2)
      go_enter Tryz.func34, Tryz.ntmps34
      go_wp2
      go_ret
      exact ⟨ret_bool hb.out.symm, rfl⟩
  · have hb := hide (inB_lo (b := b) h1)
    go_enter Tryz.func34, Tryz.ntmps34
    go_wp2
    go_ret
    exact ⟨ret_bool hb.out.symm, rfl⟩

set_option maxHeartbeats 1000000 in
theorem checkBeads_any (A : Option Addr) (c : Nat) (l : List Bead) (w : World) (hl : Sl w 0 A l) :
    Calls Tryz.prog 51 #[.slice A l.length c] w fun e w' => e = .returned (.int .i64 (checkBeads l)) ∧ w.grownBy w' none := by
  have hm := hl.1
  unfold maxLen at hm
  by_cases h0 : 5000 < l.length
  · go_enter Tryz.func51, Tryz.ntmps51
    go_wp2
    go_ret
    exact ⟨by simp [checkBeads, h0], World.grownBy.refl _ _⟩
  · go_enter Tryz.func51, Tryz.ntmps51
    go_wp2
    go_loopw [10] (fun i wr => ∃ k : Nat, k ≤ l.length ∧ i = .int .i64 k ∧ w.grownBy wr none ∧ Hid ((l.take k).all okBead = true)) (fun i _ => l.length - (intOf i).toNat)
    case atStart => exact ⟨0, Nat.zero_le _, rfl, World.grownBy.refl _ _, by simp [Hid]⟩
    case round =>
      obtain ⟨k, hk, rfl, hg, hall⟩ := hrel
      by_cases hlt : k < l.length
      · obtain ⟨g, o, cx, rfl, hb0, hb1, rfl, hc⟩ := (hl.pure hg).at_ (by decide) hlt
        have c0 : wr.cell? ⟨g, o + k * 3, none⟩ = some (.int .i64 l[k].long) := hc 0 _ rfl
        have c1 : wr.cell? ⟨g, o + k * 3 + 1, none⟩ = some (.int .i64 l[k].wide) := hc 1 _ rfl
        have c2 : wr.cell? ⟨g, o + k * 3 + 2, none⟩ = some (.int .i64 l[k].high) := hc 2 _ rfl
        clear hc
        have HS : Hid ((l.take (k+1)).all okBead = ((l.take k).all okBead && okBead l[k])) := by
          simp only [Hid]; rw [take_snoc hlt, List.all_append]; simp
        have HB : Hid (okBead l[k] = false → Ending.returned (.int .i64 1) = .returned (.int .i64 (checkBeads l))) := fun hf => by
          have : l.all okBead = false := by
            rw [List.all_eq_false]; exact ⟨l[k], List.getElem_mem _, by simp [hf]⟩
          simp [checkBeads, h0, this]
        rcases h1 : outB l[k].long 0 10000000 with _ | _
        · rcases h2 : outB l[k].wide 1 5000 with _ | _
          · rcases h3 : outB l[k].high 1 5000 with _ | _
            · have hok : Hid (okBead l[k] = true) := by simp [Hid, okBead, h1, h2, h3]
              go_wp2_with (go_at_call 63; refine (outside_any _ _ _ _).mono ?_; rintro e w' ⟨rfl, rfl⟩)
              go_roundw
              case rel => exact ⟨k + 1, by omega, by go_num, gr_alloc hg _, by simp only [Hid] at *; rw [HS, hall, hok]; rfl⟩
              case measure => simp [intOf]; omega
            · have hok : Hid (okBead l[k] = false) := by simp [Hid, okBead, h1, h2, h3]
              go_wp2_with (go_at_call 63; refine (outside_any _ _ _ _).mono ?_; rintro e w' ⟨rfl, rfl⟩)
              go_ret
              exact ⟨HB.out hok.out, gr_alloc hg _⟩
          · have hok : Hid (okBead l[k] = false) := by simp [Hid, okBead, h1, h2]
            go_wp2_with (go_at_call 63; refine (outside_any _ _ _ _).mono ?_; rintro e w' ⟨rfl, rfl⟩)
            go_ret
            exact ⟨HB.out hok.out, gr_alloc hg _⟩
        · have hok : Hid (okBead l[k] = false) := by simp [Hid, okBead, h1]
          go_wp2_with (go_at_call 63; refine (outside_any _ _ _ _).mono ?_; rintro e w' ⟨rfl, rfl⟩)
          go_ret
          exact ⟨HB.out hok.out, gr_alloc hg _⟩
      · have HB : Hid (Ending.returned (.int .i64 0) = .returned (.int .i64 (checkBeads l))) := by
          have : l.all okBead = true := by have := hall.out; rwa [List.take_of_length_le (by omega)] at this
          simp [Hid, checkBeads, h0, this]
        go_wp2
        go_ret
        exact ⟨HB.out, hg⟩

set_option maxHeartbeats 1000000 in
theorem volume_any (A : Option Addr) (c : Nat) (l : List Bead) (w : World) (hl : Sl w 0 A l) :
    Calls Tryz.prog 52 #[.slice A l.length c] w fun e w' => e = .returned (.int .i64 (volW l)) ∧ w.grownBy w' none := by
  have hm := hl.1
  unfold maxLen at hm
  go_enter Tryz.func52, Tryz.ntmps52
  go_wp2
  go_loopw [3, 8] (fun n i wr => ∃ k : Nat, k ≤ l.length ∧ i = .int .i64 k ∧ n = .int .i64 (volW (l.take k)) ∧ w.grownBy wr none) (fun _ i _ => l.length - (intOf i).toNat)
  case atStart => exact ⟨0, Nat.zero_le _, rfl, rfl, World.grownBy.refl _ _⟩
  case round =>
    obtain ⟨k, hk, rfl, rfl, hg⟩ := hrel
    by_cases hlt : k < l.length
    · obtain ⟨g, o, cx, rfl, hb0, hb1, rfl, hc⟩ := (hl.pure hg).at_ (by decide) hlt
      have c0 : wr.cell? ⟨g, o + k * 3, none⟩ = some (.int .i64 l[k].long) := hc 0 _ rfl
      have c1 : wr.cell? ⟨g, o + k * 3 + 1, none⟩ = some (.int .i64 l[k].wide) := hc 1 _ rfl
      have c2 : wr.cell? ⟨g, o + k * 3 + 2, none⟩ = some (.int .i64 l[k].high) := hc 2 _ rfl
      clear hc
      have HS : Hid (volW (l.take (k+1)) = wrap64 (volW (l.take k) + wrap64 (wrap64 (l[k].long * l[k].wide) * l[k].high))) := by simp only [Hid]; rw [take_snoc hlt, volW_snoc]; rfl
      go_wp2
      go_roundw
      case rel => exact ⟨k + 1, by omega, by go_num, by rw [HS.out], gr_alloc hg _⟩
      case measure => simp [intOf]; omega
    · have HB : Hid (volW (l.take k) = volW l) := by simp only [Hid]; rw [List.take_of_length_le (by omega)]
      go_wp2
      go_ret
      exact ⟨ret_int HB.out, hg⟩

end Go.Proofs.YtfleljmmfkkkpaaGreatDoor
