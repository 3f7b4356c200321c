/- Contracts of functions that this seat's laws reach, each: what one call returns and what it leaves in memory; no condition beyond each theorem's own hypotheses. -/
import Derived.Test.YtdamjdhioipmeaaFlowA
import Derived.StillTailTactics
set_option linter.unusedVariables false
set_option linter.unusedSimpArgs false
namespace Go.Proofs.Ytdamjdhioipmeaa
open Go.RowKit Go.Bl

set_option maxHeartbeats 400000 in
theorem or_any (A : Option Addr) (n c : Nat) (l : List Int) (w : World) (hl : Sl w 0 A l) (hn : n = l.length) :
    Calls Try.prog 30 #[.slice A n c] w fun e w' => e = .returned (.int .i64 (orL l)) ∧ w = w' := by
  have hm := hl.1
  unfold maxLen at hm
  subst hn
  go_enter Try.func30, Try.ntmps30
  go_wp2
  go_loop [8] (fun i => ∃ k : Nat, k ≤ l.length ∧ i = .int .i64 k ∧ Hid (orL (l.drop k) = orL l)) (fun i => l.length - (intOf i).toNat)
  case atStart => exact ⟨0, Nat.zero_le _, rfl, rfl⟩
  case round =>
    obtain ⟨k, hk, rfl, hd⟩ := hrel
    by_cases hlt : k < l.length
    · obtain ⟨g, o, cx, rfl, hb0, hb1, rfl, hc⟩ := hl.at_ (by decide) hlt
      have c0 : w.cell? ⟨g, o + k, none⟩ = some (.int .i64 l[k]) := by have := hc 0 _ rfl; rwa [show Enc.sz Int = 1 from rfl, Nat.mul_one] at this
      clear hc
      by_cases hz : l[k] = 0
      · have HS : Hid (orL (l.drop (k + 1)) = orL l) := by have := hd.out; rw [orL_drop hlt, if_neg (by simp [hz])] at this; exact this
        have hb : (l[k] != 0) = false := by simp [hz]
        clear hz
        go_wp2
        go_round
        case rel => exact ⟨k + 1, by omega, by go_num, HS⟩
        case measure => simp [intOf]; omega
      · have HS : Hid (l[k] = orL l) := by have := hd.out; rw [orL_drop hlt, if_pos hz] at this; exact this
        have hb : (l[k] != 0) = true := by simp [hz]
        clear hz
        go_wp2
        go_ret
        exact ⟨ret_int HS.out, rfl⟩
    · have HS : Hid (0 = orL l) := by have := hd.out; rw [List.drop_of_length_le (by omega)] at this; exact this
      go_wp2
      go_ret
      exact ⟨ret_int HS.out, rfl⟩

set_option maxHeartbeats 400000 in
theorem volumeFault_any (A : Option Addr) (c : Nat) (l : List Bead) (m : Int) (w : World) (hl : Sl w 0 A l) :
    Calls Try.prog 45 #[.slice A l.length c, .int .i64 m] w fun e w' => e = .returned (.int .i64 (if m < volW l then 12 else 0)) ∧ w.grownBy w' none := by
  by_cases h : m < volW l
  · rw [if_pos h]
    go_enter Try.func45, Try.ntmps45
    go_wp2_with (go_at_call 13; refine (volumeFed_any _ _ _ _ hl).mono ?_; rintro e w1 ⟨rfl, hg⟩)
    go_ret
    exact ⟨rfl, hg⟩
  · rw [if_neg h]
    go_enter Try.func45, Try.ntmps45
    go_wp2_with (go_at_call 13; refine (volumeFed_any _ _ _ _ hl).mono ?_; rintro e w1 ⟨rfl, hg⟩)
    go_ret
    exact ⟨rfl, hg⟩

set_option maxHeartbeats 400000 in
theorem fedFault_any (A : Option Addr) (c : Nat) (l : List Bead) (w : World) (hl : Sl w 0 A l) :
    Calls Try.prog 12 #[.slice A l.length c] w fun e w' => e = .returned (.int .i64 (fedFault l)) ∧ w.grownBy w' none := by
  by_cases h : checkBeads l = 0
  · have HS : Hid ((if 1000000000000000000 < volW l then 12 else 0) = fedFault l) := by simp [Hid, fedFault, h]
    have hb : (checkBeads l != 0) = false := by simp [h]
    clear h
    go_enter Try.func12, Try.ntmps12
    go_wp2_with fail
    refine (beadsFault_any _ _ _ _ hl).mono ?_
    rintro e w1 ⟨rfl, hg⟩
    go_wp2_with fail
    refine (volumeFault_any _ _ _ _ _ (hl.pure hg)).mono ?_
    rintro e w2 ⟨rfl, hg2⟩
    rw [HS.out]
    go_wp2
    go_ret
    exact ⟨rfl, gr_trans hg hg2⟩
  · have HS : Hid (checkBeads l = fedFault l) := by simp [Hid, fedFault, h]
    have hb : (checkBeads l != 0) = true := by simp [h]
    clear h
    go_enter Try.func12, Try.ntmps12
    go_wp2_with fail
    refine (beadsFault_any _ _ _ _ hl).mono ?_
    rintro e w1 ⟨rfl, hg⟩
    go_wp2_with fail
    go_ret
    exact ⟨ret_int HS.out, hg⟩

set_option maxHeartbeats 400000 in
theorem areaFaultRef_any (A : Option Addr) (c : Nat) (l : List Bead) (area : Int) (w : World) (hl : Sl w 0 A l) :
    Calls Try.prog 15 #[.slice A l.length c, .int .i64 area] w fun e w' => e = .returned (.int .i64 (areaFault l area)) ∧ w.grownBy w' none := by
  have HA := hide (areaFault_eq l area)
  by_cases h : orS (checkBeads l) (spanF area 1 100000000) = 0
  · have HS : Hid (fedFault l = areaFault l area) := by rw [← HA.out, orS_zero h]; exact rfl
    have hb : (orS (checkBeads l) (spanF area 1 100000000) != 0) = false := by simp [h]
    have H2 := hide (orL_two (checkBeads l) (spanF area 1 100000000))
    clear h
    go_enter Try.func15, Try.ntmps15
    go_wp2_with fail
    refine (beadsFault_any _ _ _ _ hl).mono ?_
    rintro e w1 ⟨rfl, hg⟩
    go_wp2_with fail
    refine (spanFault_any _ _ _ _).mono ?_
    rintro e w2 ⟨rfl, rfl⟩
    go_wp2_with fail
    refine (or_any _ _ _ [checkBeads l, spanF area 1 100000000] _ (sl_ints _ _ _ _ (Nat.zero_le _) (by simp [maxLen])) rfl).mono ?_
    rintro e w3 ⟨rfl, rfl⟩
    rw [H2.out]
    go_wp2_with fail
    refine (fedFault_any _ _ _ _ (hl.pure (gr_alloc hg _))).mono ?_
    rintro e w4 ⟨rfl, hg4⟩
    go_wp2
    go_ret
    exact ⟨ret_int HS.out, gr_trans (gr_alloc hg _) hg4⟩
  · have HS : Hid (orS (checkBeads l) (spanF area 1 100000000) = areaFault l area) := by rw [← HA.out, orS_ne h]; exact rfl
    have hb : (orS (checkBeads l) (spanF area 1 100000000) != 0) = true := by simp [h]
    have H2 := hide (orL_two (checkBeads l) (spanF area 1 100000000))
    clear h
    go_enter Try.func15, Try.ntmps15
    go_wp2_with fail
    refine (beadsFault_any _ _ _ _ hl).mono ?_
    rintro e w1 ⟨rfl, hg⟩
    go_wp2_with fail
    refine (spanFault_any _ _ _ _).mono ?_
    rintro e w2 ⟨rfl, rfl⟩
    go_wp2_with fail
    refine (or_any _ _ _ [checkBeads l, spanF area 1 100000000] _ (sl_ints _ _ _ _ (Nat.zero_le _) (by simp [maxLen])) rfl).mono ?_
    rintro e w3 ⟨rfl, rfl⟩
    rw [H2.out]
    go_wp2_with fail
    go_ret
    exact ⟨ret_int HS.out, gr_alloc hg _⟩

set_option maxHeartbeats 400000 in
theorem areaFault_any (A : Option Addr) (c : Nat) (l : List Bead) (area : Int) (w : World) (hl : Sl w 0 A l) :
    Calls Try.prog 46 #[.slice A l.length c, .int .i64 area] w fun e w' => e = .returned (.int .i64 (areaFault l area)) ∧ w.grownBy w' none := by
  by_cases h : checkBeads l = 0
  · have hb : (checkBeads l != 0) = false := by simp [h]
    rcases h2 : outB area 1 100000000 with _ | _
    · by_cases h3 : 1000000000000000000 < volW l
      · have HS : Hid (12 = areaFault l area) := by simp [Hid, areaFault, h, h2, h3]
        clear h
        go_enter Try.func46, Try.ntmps46
        go_wp2_with fail
        refine (checkBeads_any _ _ _ _ hl).mono ?_
        rintro e w1 ⟨rfl, hg⟩
        go_wp2_with fail
        refine (outside_any _ _ _ _).mono ?_
        rintro e w2 ⟨rfl, rfl⟩
        go_wp2_with fail
        refine (volume_any _ _ _ _ (hl.pure hg)).mono ?_
        rintro e w2 ⟨rfl, hg2⟩
        go_wp2_with fail
        go_ret
        exact ⟨ret_int HS.out, gr_trans hg hg2⟩
      · have HS : Hid (0 = areaFault l area) := by simp [Hid, areaFault, h, h2, h3]
        clear h
        go_enter Try.func46, Try.ntmps46
        go_wp2_with fail
        refine (checkBeads_any _ _ _ _ hl).mono ?_
        rintro e w1 ⟨rfl, hg⟩
        go_wp2_with fail
        refine (outside_any _ _ _ _).mono ?_
        rintro e w2 ⟨rfl, rfl⟩
        go_wp2_with fail
        refine (volume_any _ _ _ _ (hl.pure hg)).mono ?_
        rintro e w2 ⟨rfl, hg2⟩
        go_wp2_with fail
        go_ret
        exact ⟨ret_int HS.out, gr_trans hg hg2⟩
    · have HS : Hid (1 = areaFault l area) := by simp [Hid, areaFault, h, h2]
      clear h
      go_enter Try.func46, Try.ntmps46
      go_wp2_with fail
      refine (checkBeads_any _ _ _ _ hl).mono ?_
      rintro e w1 ⟨rfl, hg⟩
      go_wp2_with fail
      refine (outside_any _ _ _ _).mono ?_
      rintro e w2 ⟨rfl, rfl⟩
      go_wp2_with fail
      go_ret
      exact ⟨ret_int HS.out, hg⟩
  · have hb : (checkBeads l != 0) = true := by simp [h]
    have HS : Hid (checkBeads l = areaFault l area) := by simp [Hid, areaFault, h]
    clear h
    go_enter Try.func46, Try.ntmps46
    go_wp2_with fail
    refine (checkBeads_any _ _ _ _ hl).mono ?_
    rintro e w1 ⟨rfl, hg⟩
    go_wp2_with fail
    go_ret
    exact ⟨ret_int HS.out, hg⟩

set_option maxHeartbeats 400000 in
theorem equalInts_any (A B : Option Addr) (c d : Nat) (l m : List Int) (w : World) (hl : Sl w 0 A l) (hr : Sl w 0 B m) :
    Calls Try.prog 22 #[.slice A l.length c, .slice B m.length d] w fun e w' => e = .returned (.bool (eqB l m)) ∧ w.grownBy w' none := by
  have hm := hl.1
  unfold maxLen at hm
  have hm2 := hr.1
  unfold maxLen at hm2
  by_cases h : l.length = m.length
  · have hb : ((l.length : Int) != m.length) = false := by simp [h]
    have HL := hide h
    have hle : l.length ≤ m.length := by omega
    clear h
    go_enter Try.func22, Try.ntmps22
    go_wp2
    go_loopw [13] (fun i wr => ∃ k : Nat, k ≤ l.length ∧ i = .int .i64 k ∧ w.grownBy wr none ∧ Hid (l.take k = m.take k)) (fun i _ => l.length - (intOf i).toNat)
    case atStart => exact ⟨0, Nat.zero_le _, rfl, World.grownBy.refl _ _, rfl⟩
    case round =>
      obtain ⟨k, hk, rfl, hg, ht⟩ := hrel
      by_cases hlt : k < l.length
      · have hlt2 : k < m.length := by omega
        obtain ⟨g, o, cx, rfl, hb0, hb1, rfl, hc⟩ := (hl.pure hg).at_ (by decide) hlt
        have c0 : wr.cell? ⟨g, o + k, none⟩ = some (.int .i64 l[k]) := by have := hc 0 _ rfl; rwa [show Enc.sz Int = 1 from rfl, Nat.mul_one] at this
        obtain ⟨g2, o2, cx, rfl, hb2, hb3, rfl, hc2⟩ := (hr.pure hg).at_ (by decide) hlt2
        have c1 : wr.cell? ⟨g2, o2 + k, none⟩ = some (.int .i64 m[k]) := by have := hc2 0 _ rfl; rwa [show Enc.sz Int = 1 from rfl, Nat.mul_one] at this
        clear hc hc2
        have hi0 : (0 : Int) ≤ (k : Int) ∧ (k : Int) < l.length ∧ (k : Int) < m.length := by omega
        by_cases hz : l[k] = m[k]
        · have HS : Hid (l.take (k + 1) = m.take (k + 1)) := by simp only [Hid]; rw [take_snoc hlt, take_snoc hlt2, ht.out, hz]
          have hb : (l[k] != m[k]) = false := by simp [hz]
          clear hz
          go_wp2_with fail
          go_quiet (fail)
          go_wp2
          go_roundw
          case rel => exact ⟨k + 1, by omega, by go_num, gr_drewN hg _, HS⟩
          case measure => simp [intOf]; omega
        · have HS := hide (eqB_ne hlt hlt2 hz)
          have hb : (l[k] != m[k]) = true := by simp [hz]
          clear hz
          go_wp2_with fail
          go_quiet (fail)
          go_wp2
          go_ret
          exact ⟨ret_bool HS.out.symm, gr_drewN hg _⟩
      · have HS : Hid (eqB l m = true) := eqB_all HL.out (by have := ht.out; rwa [show k = l.length by omega] at this)
        go_wp2
        go_ret
        exact ⟨ret_bool HS.out.symm, hg⟩
  · have hb : ((l.length : Int) != m.length) = true := by simp; omega
    have HS := hide (eqB_len h)
    clear h
    go_enter Try.func22, Try.ntmps22
    go_wp2
    go_ret
    exact ⟨ret_bool HS.out.symm, World.grownBy.refl _ _⟩

set_option maxHeartbeats 1000000 in
theorem lowest_any (num den : Int) (w : World) (h1 : 0 ≤ num ∧ num ≤ 9223372036854775807) (h2 : 1 ≤ den ∧ den ≤ 9223372036854775807) :
    Calls Try.prog 47 #[.int .i64 num, .int .i64 den] w fun e w' => e = .returned (.agg #[.int .i64 (lowest num den).num, .int .i64 (lowest num den).den]) ∧ w.grownBy w' none := by
  go_enter Try.func47, Try.ntmps47
  go_wp2
  go_loopw [5, 6] (fun x y wr => ∃ a b : Int, x = .int .i64 a ∧ y = .int .i64 b ∧ 0 ≤ a ∧ a ≤ 9223372036854775807 ∧ 0 ≤ b ∧ b ≤ 9223372036854775807 ∧ Hid (gcdI a b = gcdI num den) ∧ w.grownBy wr none ∧ w.heap.size < wr.heap.size ∧ wr.cell? ⟨w.heap.size, 0, none⟩ = some (.int .i64 0) ∧ wr.cell? ⟨w.heap.size, 1, none⟩ = some (.int .i64 0) ∧ wr.frozen? ⟨w.heap.size, 0, none⟩ = false ∧ wr.frozen? ⟨w.heap.size, 1, none⟩ = false) (fun _ y _ => (intOf y).toNat)
  case atStart => exact ⟨_, _, rfl, rfl, by omega, by omega, by omega, by omega, rfl, gr_alloc (World.grownBy.refl _ _) _, by simp, by go_simp, by go_simp, by go_simp, by go_simp⟩
  case round =>
    obtain ⟨a, b, rfl, rfl, ha, ha2, hb, hb2, hgc, hg, hsz, k0, k1, f0, f1⟩ := hrel
    by_cases hz : b = 0
    · have hbb : (b != 0) = false := by simp [hz]
      have hag : a = gcdI num den := by have := hgc.out; rwa [hz, gcdI_zero ha] at this
      have hp := gcdI_pos num (b := den) (by omega)
      have hp1 : 1 ≤ a := by omega
      have HL : Hid (lowest num den = ⟨num / a, den / a⟩) := by simp only [Hid, lowest]; rw [← hag]
      clear hz hag hp
      go_wp2_with fail
      go_region
      all_goals
        go_wp2
        refine bodyPost_ret (v := .agg #[.int .i64 (num / a), .int .i64 (den / a)]) (by simp [results, Try.results47, go_sem, k0, k1, f0, f1]) rfl ⟨?_, ?_⟩
        · rw [HL.out]
        · exact gr_set (gr_set (gr_drewN hg _) (.inr (Nat.le_refl _)) _) (.inr (Nat.le_refl _)) _
    · have hbb : (b != 0) = true := by simp [hz]
      have hb1 : 1 ≤ b := by omega
      have hm0 : 0 ≤ a % b ∧ a % b < b := ⟨Int.emod_nonneg _ (by omega), Int.emod_lt_of_pos _ (by omega)⟩
      have HS : Hid (gcdI b (a % b) = gcdI num den) := by have := gcdI_step ha hb1; rw [Hid, this]; exact hgc.out
      clear hz
      go_wp2_with fail
      go_quiet (fail)
      go_wp2_with fail
      go_roundw
      case rel => exact ⟨_, _, rfl, rfl, by omega, by omega, by omega, by omega, HS, gr_drewN hg _, hsz, k0, k1, f0, f1⟩
      case measure => simp [intOf]; omega

set_option maxHeartbeats 1000000 in
theorem lowestRef_any (num den : Int) (w : World) (h1 : 0 ≤ num ∧ num ≤ 9223372036854775807) (h2 : 1 ≤ den ∧ den ≤ 9223372036854775807) :
    Calls Try.prog 48 #[.int .i64 num, .int .i64 den] w fun e w' => e = .returned (.agg #[.int .i64 (lowest num den).num, .int .i64 (lowest num den).den]) ∧ w.grownBy w' none := by
  have hmx : max num (-num) = num := by omega
  go_enter Try.func48, Try.ntmps48
  go_wp2
  go_loopw [5, 6] (fun x y wr => ∃ a b : Int, x = .int .i64 a ∧ y = .int .i64 b ∧ 0 ≤ a ∧ a ≤ 9223372036854775807 ∧ 0 ≤ b ∧ b ≤ 9223372036854775807 ∧ Hid (gcdI a b = gcdI num den) ∧ w.grownBy wr none ∧ w.heap.size < wr.heap.size ∧ wr.cell? ⟨w.heap.size, 0, none⟩ = some (.int .i64 0) ∧ wr.cell? ⟨w.heap.size, 1, none⟩ = some (.int .i64 0) ∧ wr.frozen? ⟨w.heap.size, 0, none⟩ = false ∧ wr.frozen? ⟨w.heap.size, 1, none⟩ = false) (fun _ y _ => (intOf y).toNat)
  case atStart => exact ⟨_, _, rfl, rfl, by omega, by omega, by omega, by omega, rfl, gr_alloc (World.grownBy.refl _ _) _, by simp, by go_simp, by go_simp, by go_simp, by go_simp⟩
  case round =>
    obtain ⟨a, b, rfl, rfl, ha, ha2, hb, hb2, hgc, hg, hsz, k0, k1, f0, f1⟩ := hrel
    by_cases hz : b = 0
    · have hbb : (b != 0) = false := by simp [hz]
      have hag : a = gcdI num den := by have := hgc.out; rwa [hz, gcdI_zero ha] at this
      have hp := gcdI_pos num (b := den) (by omega)
      have hp1 : 1 ≤ a := by omega
      have HL : Hid (lowest num den = ⟨num / a, den / a⟩) := by simp only [Hid, lowest]; rw [← hag]
      clear hz hag hp
      go_wp2_with fail
      go_region
      all_goals
        go_wp2
        refine bodyPost_ret (v := .agg #[.int .i64 (num / a), .int .i64 (den / a)]) (by simp [results, Try.results48, go_sem, k0, k1, f0, f1]) rfl ⟨?_, ?_⟩
        · rw [HL.out]
        · exact gr_set (gr_set (gr_drewN hg _) (.inr (Nat.le_refl _)) _) (.inr (Nat.le_refl _)) _
    · have hbb : (b != 0) = true := by simp [hz]
      have hb1 : 1 ≤ b := by omega
      have hm0 : 0 ≤ a % b ∧ a % b < b := ⟨Int.emod_nonneg _ (by omega), Int.emod_lt_of_pos _ (by omega)⟩
      have HS : Hid (gcdI b (a % b) = gcdI num den) := by have := gcdI_step ha hb1; rw [Hid, this]; exact hgc.out
      clear hz
      go_wp2_with fail
      go_quiet (fail)
      go_wp2_with fail
      go_roundw
      case rel => exact ⟨_, _, rfl, rfl, by omega, by omega, by omega, by omega, HS, gr_drewN hg _, hsz, k0, k1, f0, f1⟩
      case measure => simp [intOf]; omega

end Go.Proofs.Ytdamjdhioipmeaa
