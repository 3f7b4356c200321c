/- Contracts of functions that this seat's laws reach, each: what one call returns and what it leaves in memory; no condition beyond each theorem's own hypotheses. -/
import Derived.Test.YtdamjdhioipmeaaFlowB
import Derived.Test.YtdamjdhioipmeaaMix
set_option linter.unusedVariables false
set_option linter.unusedSimpArgs false
namespace Go.Proofs.Ytdamjdhioipmeaa
open Go.RowKit Go.Bl

set_option maxHeartbeats 1000000 in
theorem positions_any (A : Option Addr) (c : Nat) (l : List Bead) (area : Int) (w : World) (hl : Sl w 0 A l) :
    Calls Try.prog 17 #[.slice A l.length c, .int .i64 area] w fun e w' => ∃ A' c', e = .returned (.tuple #[.slice A' (positions l area).length c', .int .i64 (areaFault l area)]) ∧ Own w' w.heap.size 3 A' c' (positions l area) ∧ w.grownBy w' none := by
  by_cases h : areaFault l area = 0
  · obtain ⟨hm, hok, ha1, ha2, hv⟩ := areaFault_zero h
    have hok := hide hok
    have hb : (areaFault l area != 0) = false := by simp [h]
    have HF := hide h
    have HP : Hid (positions l area = posOf l area l.length) := by simp only [Hid, positions]; rw [if_neg (by simp [h])]
    clear h
    obtain ⟨i0, hi, hz, h1, h2⟩ := info_parts info_int
    go_enter Try.func17, Try.ntmps17
    go_wp2_with fail
    refine (areaFault_any _ _ _ _ _ hl).mono ?_
    rintro e w1 ⟨rfl, hg1⟩
    go_wp2_with fail
    go_loopw [7, 8, 19] (fun o n i wr => ∃ (k : Nat) (A' : Option Addr) (c' : Nat), k ≤ l.length ∧ i = .int .i64 k ∧ n = .int .i64 (vol (l.take k)) ∧ o = .slice A' k c' ∧ Own wr w.heap.size 3 A' c' (posOf l area k) ∧ w.grownBy wr none) (fun _ _ i _ => l.length - (intOf i).toNat)
    case atStart => exact ⟨0, none, 0, Nat.zero_le _, rfl, rfl, rfl, Own.nil _ _ _, hg1⟩
    case round =>
      obtain ⟨k, A', c', hk, rfl, rfl, rfl, hown, hg⟩ := hrel
      by_cases hlt : k < l.length
      · obtain ⟨g, o, cx, rfl, hb0, hb1, rfl, hc⟩ := (hl.pure hg).at_ (by decide) hlt
        have c0 : wr.cell? ⟨g, o + k * 3, none⟩ = some (.int .i64 l[k].long) := hc 0 _ rfl
        have c1 : wr.cell? ⟨g, o + k * 3 + 1, none⟩ = some (.int .i64 l[k].wide) := hc 1 _ rfl
        have c2 : wr.cell? ⟨g, o + k * 3 + 2, none⟩ = some (.int .i64 l[k].high) := hc 2 _ rfl
        clear hc
        have hox := all_take hok.out (k + 1)
        have hokk : okBead l[k] = true := by have := hok.out; rw [List.all_eq_true] at this; exact this _ (List.getElem_mem _)
        have hp : wrap64 (wrap64 (l[k].long * l[k].wide) * l[k].high) = bw l[k] := bv_eq hokk
        have hbw := (bw_bd hokk).2
        have hvs : Hid (vol (l.take (k + 1)) = vol (l.take k) + bw l[k]) := by simp only [Hid]; rw [take_snoc hlt, vol_snoc]
        have hv0 := (vol_bd _ (all_take hok.out k)).1
        have hv1 := vol_take_le l hok.out (k + 1)
        rw [hvs.out] at hv1
        clear hox hokk
        have hps : Hid (posOf l area (k + 1) = posOf l area k ++ [(2 * (vol (l.take k) + bw l[k]) + area) / (2 * area)]) := by simp only [Hid]; rw [posOf_succ, hvs.out]
        go_wp2_with (at_builtin; refine wpList_push (α := Int) _ rfl (.tmp 33) (.tmp 41) _ rfl w.heap.size 3 i0 _ 8 Try.underlying22 hi hz h1 h2 rfl _ _ _ (posOf l area k) rfl ?c1 (by exact (hown.pure (by repeat (first | exact World.grownBy.refl _ _ | assumption | refine gr_alloc ?_ _ | refine gr_drewN ?_ _ | refine gr_drew ?_)))) 0 ⟨_, 0, none⟩ 1 1 [(2 * (vol (l.take k) + bw l[k]) + area) / (2 * area)] rfl rfl (by exact sl_int1 _ _ _ _ (by first | rfl | simp)) ?c2 ?c3 ?c4 ?_)
        case c1 => rw [posOf_len]
        case c2 => rw [posOf_len]; simp; omega
        case c3 => rw [posOf_len]; simp [maxLen]; omega
        case c4 => simp; have := hg.size; omega
        intro A2 c2 w2 hown2 hup2
        rw [← hps.out] at hown2
        go_wp2
        go_roundw
        case rel => exact ⟨k + 1, A2, c2, by omega, by go_num, by rw [hvs.out], by simp [posOf_len], hown2, hup2.gr (Nat.le_refl _) (gr_alloc (gr_alloc hg _) _)⟩
        case measure => simp [intOf]; omega
      · have hkl : k = l.length := by omega
        subst hkl
        go_wp2
        go_ret2
        refine ⟨A', c', ?_, by rw [HP.out]; exact hown, hg⟩
        rw [HP.out, posOf_len, HF.out]
        rfl
  · have hb : (areaFault l area != 0) = true := by simp [h]
    have HP : Hid (positions l area = []) := by simp only [Hid, positions]; rw [if_pos h]
    clear h
    go_enter Try.func17, Try.ntmps17
    go_wp2_with fail
    refine (areaFault_any _ _ _ _ _ hl).mono ?_
    rintro e w1 ⟨rfl, hg1⟩
    go_wp2_with fail
    go_ret2
    exact ⟨none, 0, by rw [HP.out]; rfl, by rw [HP.out]; exact Own.nil _ _ _, hg1⟩

set_option maxHeartbeats 1000000 in
theorem amounts_any (A : Option Addr) (c : Nat) (l : List Bead) (area : Int) (w : World) (hl : Sl w 0 A l) :
    Calls Try.prog 18 #[.slice A l.length c, .int .i64 area] w fun e w' => ∃ A' c', e = .returned (.tuple #[.slice A' (amounts l area).length c', .int .i64 (areaFault l area)]) ∧ Own w' w.heap.size 3 A' c' (amounts l area) ∧ w.grownBy w' none := by
  have HD : Hid (amounts l area = diffFrom (positions l area) 1) := rfl
  go_enter Try.func18, Try.ntmps18
  go_wp2_with fail
  refine (positions_any _ _ _ _ _ hl).mono ?_
  rintro e w1 ⟨A', c', rfl, hown, hg1⟩
  generalize positions l area = P at *
  have hm := hown.1
  unfold maxLen at hm
  by_cases hP : P.length = 0
  · have hP' : P = [] := List.eq_nil_of_length_eq_zero hP
    subst hP'
    go_wp2_with fail
    refine wp_loop_once ?_
    go_wp2
    go_ret2
    exact ⟨A', c', by rw [HD.out]; rfl, by rw [HD.out]; exact hown, hg1⟩
  · obtain ⟨g, rfl, hg0, hgs⟩ := hown.shape (by omega)
    go_wp2_with fail
    go_loopw [8] (fun i wr => ∃ (z : Int) (k : Nat), i = .int .i64 z ∧ Hid (z = (k : Int) - 1) ∧ 1 ≤ k ∧ k ≤ P.length ∧ Own wr w.heap.size 3 (some ⟨g, 0, none⟩) c' (diffFrom P k) ∧ w.grownBy wr none) (fun i _ => (intOf i).toNat)
    case atStart => exact ⟨_, P.length, rfl, by simp only [Hid], by omega, Nat.le_refl _, by rw [diffFrom_top]; exact hown, hg1⟩
    case round =>
      obtain ⟨z, k, rfl, hz, hk1, hk, hown, hg⟩ := hrel
      by_cases hz1 : 1 ≤ z
      · obtain ⟨j, hj⟩ : ∃ j : Nat, k = j + 2 := ⟨k - 2, by have := hz.out; omega⟩
        subst hj
        obtain rfl : z = (j : Int) + 1 := by have := hz.out; omega
        have HS := hide (diffFrom_step (p := P) (k := j) (by omega))
        have hlt : j + 1 < (diffFrom P (j + 2)).length := by rw [diffFrom_len]; omega
        have c0 := hown.cell_int hlt
        have c1 := hown.cell_int (show j < (diffFrom P (j + 2)).length by omega)
        have f0 := hown.frozen (j + 1)
        have hset := hown.set_int (j + 1) (wrap64 ((diffFrom P (j + 2))[j + 1] - (diffFrom P (j + 2))[j]))
        rw [← HS.out] at hset
        have hset := hide hset
        go_wp2_with fail
        go_region
        all_goals
          go_wp2
          go_roundw
          case rel => exact ⟨_, j + 1, rfl, by simp only [Hid]; omega, by omega, by omega, hset.out.pure (gr_drew (World.grownBy.refl _ _)), gr_drew (gr_set hg (.inr hg0) _)⟩
          case measure => simp [intOf]
      · have hk0 : k = 1 := by have := hz.out; omega
        subst hk0
        go_wp2
        go_ret2
        exact ⟨_, c', by rw [HD.out, diffFrom_len]; rfl, by rw [HD.out]; exact hown, hg⟩

set_option maxHeartbeats 1000000 in
theorem positionsOf_any (A : Option Addr) (c : Nat) (l : List Bead) (area : Int) (w : World) (hl : Sl w 0 A l) (hcap : l.length ≤ c) (hF : areaFault l area = 0) :
    Calls Try.prog 20 #[.slice A l.length c, .int .i64 area] w fun e w' => ∃ A' c', e = .returned (.slice A' (positions l area).length c') ∧ Own w' w.heap.size 3 A' c' (positions l area) ∧ w.grownBy w' none := by
  obtain ⟨hm, hok, ha1, ha2, hv⟩ := areaFault_zero hF
  have hok := hide hok
  have HP : Hid (positions l area = posOf l area l.length) := by simp only [Hid, positions]; rw [if_neg (by simp [hF])]
  clear hF
  obtain ⟨i0, hi, hz, h1, h2⟩ := info_parts info_int
  go_enter Try.func20, Try.ntmps20
  go_wp2_with fail
  go_loopw [5, 10] (fun o i wr => ∃ (k : Nat) (A' : Option Addr) (c' : Nat), k ≤ l.length ∧ i = .int .i64 k ∧ o = .slice A' k c' ∧ Own wr w.heap.size 3 A' c' (posOf l area k) ∧ w.grownBy wr none) (fun _ i _ => l.length - (intOf i).toNat)
  case atStart => exact ⟨0, none, 0, Nat.zero_le _, rfl, rfl, Own.nil _ _ _, World.grownBy.refl _ _⟩
  case round =>
    obtain ⟨k, A', c', hk, rfl, rfl, hown, hg⟩ := hrel
    by_cases hlt : k < l.length
    · obtain ⟨g, o, cx, rfl, hb0, hb1, hrp, hc⟩ := (hl.pure hg).at_ (by decide) hlt
      clear hrp hc
      have hlk : (l.take (k + 1)).length = k + 1 := by rw [List.length_take]; omega
      have hvf := fun W h c => volumeFed_any (some ⟨g, o, none⟩) c (l.take (k + 1)) W h
      rw [hlk] at hvf
      have hvf := hide hvf
      have hveq : Hid (volW (l.take (k + 1)) = vol (l.take (k + 1))) := volW_eq _ (all_take hok.out _) (by omega)
      have hv0 := (vol_bd _ (all_take hok.out (k + 1))).1
      have hv1 := vol_take_le l hok.out (k + 1)
      have hrh := hide (round_half hv0 ha1)
      have hps := hide (posOf_succ l area k)
      clear hlk
      generalize vol (l.take (k + 1)) = V at *
      have hr0 := Int.emod_nonneg V (show area ≠ 0 by omega)
      have hr1 := Int.emod_lt_of_pos V (show 0 < area by omega)
      have hq0 : 0 ≤ V / area := Int.ediv_nonneg hv0 (by omega)
      have hq1 : V / area ≤ V := Int.ediv_le_self _ hv0
      go_wp2_with fail
      refine (hvf.out _ ((hl.pure hg).take _) _).mono ?_
      rintro e w2 ⟨rfl, hg2⟩
      rw [hveq.out]
      have hown2 := hown.pure hg2
      have hg3 := gr_trans hg hg2
      by_cases ht : area ≤ 2 * (V % area)
      · have htr := hide (truth_any true)
        rw [if_pos ht] at hrh
        rw [hrh.out] at hps
        go_wp2_with fail
        refine wp_region_mix (fun _ => True) [true, true, true, true, true, true, true, true, true, true, false, true, false, false, true] (by kernel_rfl) (by kernel_rfl) trivial ?_
        iterate 10 ((refine mix_b rfl rfl _ rfl (by simp) (fun K hK => ?_); apply Exists.intro; refine ⟨fun wq hq K' hK' => ?_, ?_⟩; (focus (go_wp2_with fail; exact hK')); go_simp; refine hK _ ?_; clear hK K))
        (refine mix_eff rfl (fun K hK => ?_); go_wp2_with fail)
        refine (htr.out _).mono ?_
        rintro e w3 ⟨rfl, rfl⟩
        (go_simp; refine hK _ _ trivial ?_; clear hK K)
        (refine mix_b rfl rfl _ rfl (by simp) (fun K hK => ?_); apply Exists.intro; refine ⟨fun wq hq K' hK' => ?_, ?_⟩; (focus (go_wp2_with fail; exact hK')); go_simp; refine hK _ ?_; clear hK K)
        (refine mix_eff rfl (fun K hK => ?_); go_wp2_with fail)
        (go_simp; refine hK _ _ trivial ?_; clear hK K)
        (refine mix_eff rfl (fun K hK => ?_); refine wp_push (α := Int) _ (.tmp 18) (.tmp 30) _ rfl w.heap.size 3 i0 _ 8 Try.underlying22 hi hz h1 h2 rfl _ _ _ (posOf l area k) rfl ?c1 (by exact (hown2.pure (by repeat (first | exact World.grownBy.refl _ _ | assumption | refine gr_alloc ?_ _ | refine gr_drewN ?_ _ | refine gr_drew ?_)))) 0 ⟨_, 0, none⟩ 1 1 [V / area + 1] rfl rfl (by exact sl_int1 _ _ _ _ (by first | rfl | simp)) ?c2 ?c3 ?c4 ?_)
        case c1 => rw [posOf_len]
        case c2 => rw [posOf_len]; simp; omega
        case c3 => rw [posOf_len]; simp [maxLen]; omega
        case c4 => simp; have := hg3.size; omega
        intro A2 c2 w4 hown4 hup4
        rw [← hps.out] at hown4
        (go_simp; refine hK _ _ trivial ?_; clear hK K)
        (refine mix_b rfl rfl _ rfl (by simp) (fun K hK => ?_); apply Exists.intro; refine ⟨fun wq hq K' hK' => ?_, ?_⟩; (focus (go_wp2_with fail; exact hK')); go_simp; refine hK _ ?_; clear hK K)
        refine mix_nil ?_
        go_wp2
        go_roundw
        case rel => exact ⟨k + 1, A2, c2, by omega, by go_num, by simp [posOf_len], hown4, hup4.gr (Nat.le_refl _) (gr_alloc (gr_drew hg3) _)⟩
        case measure => simp [intOf]; omega
      · have htr := hide (truth_any false)
        rw [if_neg ht] at hrh
        rw [hrh.out, Int.add_zero] at hps
        have ht' : decide (area ≤ 2 * (V % area)) = false := by simp; omega
        go_wp2_with fail
        refine wp_region_mix (fun _ => True) [true, true, true, true, true, true, true, true, true, true, false, true, false, false, true] (by kernel_rfl) (by kernel_rfl) trivial ?_
        iterate 10 ((refine mix_b rfl rfl _ rfl (by simp) (fun K hK => ?_); apply Exists.intro; refine ⟨fun wq hq K' hK' => ?_, ?_⟩; (focus (go_wp2_with fail; exact hK')); go_simp; refine hK _ ?_; clear hK K))
        (refine mix_eff rfl (fun K hK => ?_); go_wp2_with fail)
        refine (htr.out _).mono ?_
        rintro e w3 ⟨rfl, rfl⟩
        (go_simp; refine hK _ _ trivial ?_; clear hK K)
        (refine mix_b rfl rfl _ rfl (by simp) (fun K hK => ?_); apply Exists.intro; refine ⟨fun wq hq K' hK' => ?_, ?_⟩; (focus (go_wp2_with fail; exact hK')); go_simp; refine hK _ ?_; clear hK K)
        (refine mix_eff rfl (fun K hK => ?_); go_wp2_with fail)
        (go_simp; refine hK _ _ trivial ?_; clear hK K)
        (refine mix_eff rfl (fun K hK => ?_); refine wp_push (α := Int) _ (.tmp 18) (.tmp 30) _ rfl w.heap.size 3 i0 _ 8 Try.underlying22 hi hz h1 h2 rfl _ _ _ (posOf l area k) rfl ?c1 (by exact (hown2.pure (by repeat (first | exact World.grownBy.refl _ _ | assumption | refine gr_alloc ?_ _ | refine gr_drewN ?_ _ | refine gr_drew ?_)))) 0 ⟨_, 0, none⟩ 1 1 [V / area] rfl rfl (by exact sl_int1 _ _ _ _ (by first | rfl | simp)) ?c2 ?c3 ?c4 ?_)
        case c1 => rw [posOf_len]
        case c2 => rw [posOf_len]; simp; omega
        case c3 => rw [posOf_len]; simp [maxLen]; omega
        case c4 => simp; have := hg3.size; omega
        intro A2 c2 w4 hown4 hup4
        rw [← hps.out] at hown4
        (go_simp; refine hK _ _ trivial ?_; clear hK K)
        (refine mix_b rfl rfl _ rfl (by simp) (fun K hK => ?_); apply Exists.intro; refine ⟨fun wq hq K' hK' => ?_, ?_⟩; (focus (go_wp2_with fail; exact hK')); go_simp; refine hK _ ?_; clear hK K)
        refine mix_nil ?_
        go_wp2
        go_roundw
        case rel => exact ⟨k + 1, A2, c2, by omega, by go_num, by simp [posOf_len], hown4, hup4.gr (Nat.le_refl _) (gr_alloc (gr_drew hg3) _)⟩
        case measure => simp [intOf]; omega
    · have hkl : k = l.length := by omega
      subst hkl
      go_wp2
      go_ret
      exact ⟨A', c', by rw [HP.out, posOf_len]; rfl, by rw [HP.out]; exact hown, hg⟩

set_option maxHeartbeats 1000000 in
theorem amountsOf_any (A : Option Addr) (c : Nat) (l : List Bead) (area : Int) (w : World) (hl : Sl w 0 A l) (hcap : l.length ≤ c) (hF : areaFault l area = 0) :
    Calls Try.prog 21 #[.slice A l.length c, .int .i64 area] w fun e w' => ∃ A' c', e = .returned (.slice A' (amounts l area).length c') ∧ Own w' w.heap.size 3 A' c' (amounts l area) ∧ w.grownBy w' none := by
  have hbd := positions_bd hF
  have hlen0 : (positions l area).length ≤ 5000 := by
    have := areaFault_zero hF
    unfold positions; rw [if_neg (by simp [hF]), posOf_len]; exact this.1
  have HF := hide hF
  clear hF
  have HD : Hid (amounts l area = diffFrom (positions l area) 1) := rfl
  obtain ⟨i0, hi, hz, h1, h2⟩ := info_parts info_int
  go_enter Try.func21, Try.ntmps21
  go_wp2_with fail
  refine (positionsOf_any _ _ _ _ _ hl hcap HF.out).mono ?_
  rintro e w1 ⟨A', c', rfl, hownP, hg1⟩
  generalize positions l area = P at *
  have hsl := hownP.sl
  have hsz := hg1.size
  clear hownP
  go_wp2_with fail
  go_loopw [5, 6, 13] (fun o x i wr => ∃ (k : Nat) (A2 : Option Addr) (c2 : Nat), k ≤ P.length ∧ i = .int .i64 k ∧ x = .int .i64 (lastI P k) ∧ o = .slice A2 k c2 ∧ Own wr w1.heap.size 3 A2 c2 ((diffFrom P 1).take k) ∧ w1.grownBy wr none) (fun _ _ i _ => P.length - (intOf i).toNat)
  case atStart => exact ⟨0, none, 0, Nat.zero_le _, rfl, rfl, rfl, Own.nil _ _ _, World.grownBy.refl _ _⟩
  case round =>
    obtain ⟨k, A2, c2, hk, rfl, rfl, rfl, hown, hg⟩ := hrel
    have hdl := diffFrom_len P 1
    by_cases hlt : k < P.length
    · obtain ⟨g, o, cx, rfl, hb0, hb1, rfl, hc⟩ := (hsl.pure hg).at_ (by decide) hlt
      have c0 : wr.cell? ⟨g, o + k, none⟩ = some (.int .i64 P[k]) := by have := hc 0 _ rfl; rwa [show Enc.sz Int = 1 from rfl, Nat.mul_one] at this
      clear hc
      have htk : Hid (((diffFrom P 1).take k).length = k) := by simp only [Hid]; rw [List.length_take]; omega
      have hps : Hid ((diffFrom P 1).take (k + 1) = (diffFrom P 1).take k ++ [wrap64 (P[k] - lastI P k)]) := by
        simp only [Hid]; rw [take_snoc (by omega), diff_last hbd hlt]
      have hli := hide (lastI_succ hlt)
      have hrg : Hid (∀ x ∈ P, 0 ≤ x ∧ x ≤ 3000000000000000000) := hbd
      clear hbd hdl
      go_wp2_with (at_builtin; refine wpList_push (α := Int) _ rfl (.tmp 17) (.tmp 21) _ rfl w1.heap.size 3 i0 _ 8 Try.underlying22 hi hz h1 h2 rfl _ _ _ ((diffFrom P 1).take k) rfl ?c1 (by exact (hown.pure (by repeat (first | exact World.grownBy.refl _ _ | assumption | refine gr_alloc ?_ _ | refine gr_drewN ?_ _ | refine gr_drew ?_)))) 0 ⟨_, 0, none⟩ 1 1 [wrap64 (P[k] - lastI P k)] rfl rfl (by exact sl_int1 _ _ _ _ (by first | rfl | simp)) ?c2 ?c3 ?c4 ?_)
      case c1 => exact htk.out.symm
      case c2 => rw [htk.out]; simp; omega
      case c3 => rw [htk.out]; simp [maxLen]; omega
      case c4 => simp; have := hg.size; omega
      intro A3 c3 w3 hown3 hup3
      rw [← hps.out] at hown3
      go_wp2
      go_roundw
      case rel => exact ⟨k + 1, A3, c3, by omega, by go_num, by rw [hli.out], by have := htk.out; rw [List.length_take] at this; rw [this], hown3, hup3.gr (Nat.le_refl _) (gr_alloc hg _)⟩
      case measure => simp [intOf]; omega
    · have hkl : k = P.length := by omega
      subst hkl
      rw [List.take_of_length_le (by omega)] at hown
      have hdl := hide hdl
      go_wp2
      go_ret
      refine ⟨A2, c2, by rw [HD.out, hdl.out]; rfl, ?_, gr_trans hg1 hg⟩
      rw [HD.out]
      exact hown.lower hsz

end Go.Proofs.Ytdamjdhioipmeaa
