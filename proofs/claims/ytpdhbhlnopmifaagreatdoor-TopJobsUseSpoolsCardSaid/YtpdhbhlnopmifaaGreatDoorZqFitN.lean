/- Contracts of functions that this seat's laws reach, each: what one call returns and what it leaves in memory; no condition beyond each theorem's own hypotheses. -/
import Derived.Test.YtpdhbhlnopmifaaGreatDoorZqMostData
import Derived.Test.YtpdhbhlnopmifaaGreatDoorShelf
import Derived.Test.YtpdhbhlnopmifaaGreatDoorZqFitC
import Derived.Test.YtpdhbhlnopmifaaGreatDoorZqSpoolG
import Derived.Test.YtpdhbhlnopmifaaGreatDoorZqStream
set_option linter.unusedVariables false
set_option linter.unusedSimpArgs false
namespace Go.Proofs.YtpdhbhlnopmifaaGreatDoor
open Go Go.RowKit Go.Bl

theorem mul_oneN (n : Int) (w : World) (hn : 0 ≤ n ∧ n < 4294967296) :
    Calls Tryz.prog 55 #[.int .u64 1, .int .u64 n] w fun e w' => e = .returned (.tuple #[.int .u64 0, .int .u64 n]) ∧ w = w' := by
  obtain ⟨m, rfl⟩ : ∃ m : Nat, n = (m : Int) := ⟨n.toNat, by omega⟩
  have hMul := Tryz.bits_Mul 1 m (by omega) (by omega) w
  have e1 : ((1 * m / 18446744073709551616 : Nat) : Int) = 0 := by rw [Nat.one_mul, Nat.div_eq_of_lt (by omega)]; rfl
  have e2 : ((1 * m % 18446744073709551616 : Nat) : Int) = (m : Int) := by rw [Nat.one_mul, Nat.mod_eq_of_lt (by omega)]
  rw [e1, e2] at hMul
  exact hMul.mono fun e w' h => ⟨h.1, h.2.symm⟩

theorem mul_one (n : Int) (w : World) (hn : 0 ≤ n ∧ n < 4294967296) :
    Calls Tryz.prog 55 #[.int .u64 1, .int .u64 n] w fun e w' => e = .returned (.tuple #[.int .u64 0, .int .u64 n]) ∧ w = w' := mul_oneN n w hn

set_option maxHeartbeats 2000000 in
set_option maxRecDepth 100000 in
theorem repeatI_any (A : Option Addr) (c n : Nat) (x : Int) (w : World) (hl : Sl w 0 A [x]) (hn : 1 ≤ n ∧ n ≤ 1000000) :
    Calls Tryz.prog 30 #[.slice A 1 c, .int .i64 n] w fun e w' => ∃ A' c', e = .returned (.slice A' n c') ∧ Own w' w.heap.size 3 A' c' (List.replicate n x) ∧ w.grownBy w' none := by
      obtain ⟨i0, hi, hz, h1, h2⟩ := info_parts info_int
      go_enter Tryz.func30, Tryz.ntmps30
      go_wp2_with fail
      refine (mul_one _ _ (by omega)).mono ?_
      rintro e w1 ⟨rfl, rfl⟩
      obtain ⟨w2, hrun, hown, hg2⟩ := run_makeOwn (P := Tryz.prog) w 22 3 i0 _ (0 : Int) Tryz.underlying22 hi hz h1 rfl rfl .i64 .i64 n (by rw [h2]; omega) (by simp [maxLen]; omega)
      have hl2 := hl.pure hg2
      have hA : ∃ ad, A = some ad := by
        obtain ⟨g, o, c1, e, _⟩ := hl.at_ (k := 0) (by decide) (by simp)
        exact ⟨_, e⟩
      obtain ⟨ad, rfl⟩ := hA
      go_wp2_with (with_reducible refine wpList_copyOwn w2 rfl (.tmp 31) (.tmp 32) 22 22 rfl w.heap.size 3 i0 Tryz.underlying22 hi h1 w.heap.size 0 n n rfl n _ hown 0 rfl (by simp) (by simp; omega) ad 1 c rfl 0 [x] hl2 rfl ?_)
      intro w3 hown3 hg3
      have hgw3 : w.grownBy w3 none := gr_new hg2 hg3 (Nat.le_refl _)
      clear hrun hown hl2 hg3
      go_wp2_with fail
      go_loopw [8] (fun i wr => ∃ (k : Nat) (rest : List _), 1 ≤ k ∧ k ≤ n ∧ i = .int .i64 k ∧ rest.length = n - k ∧ Own wr w.heap.size 3 (some ⟨w.heap.size, 0, none⟩) n (List.replicate k x ++ rest) ∧ w.grownBy wr none) (fun i _ => n - (intOf i).toNat)
      case atStart => exact ⟨1, List.replicate (n - 1) _, by omega, by omega, rfl, by simp, hown3, hgw3⟩
      case round =>
        obtain ⟨k, rest, hk1, hk, rfl, hrl, hown, hg⟩ := hrel
        by_cases hlt : k < n
        · have hsl := (hown.sl.take k).mono (Nat.zero_le _)
          have e1 : (List.replicate k x ++ rest).take k = List.replicate k x := by rw [List.take_append_of_le_length (by simp)]; simp
          rw [e1] at hsl
          have e2 := hide e1
          clear e1
          go_wp2_with fail
          refine wp_region_mix (fun _ => True) [true, true, true, true, true, true, true, false, true, true] (by kernel_rfl) (by kernel_rfl) trivial ?_
          iterate 7 ((refine mix_b rfl rfl _ rfl (by simp) (fun K hK => ?_); apply Exists.intro; refine ⟨fun wq hq K' hK' => ?_, ?_⟩; (focus (go_wp2_with fail; exact hK')); go_simp; refine hK _ ?_; clear hK K))
          refine mix_eff rfl (fun K hK => ?_)
          refine wp_copyOwn _ (.tmp 41) (.tmp 44) 22 22 rfl w.heap.size 3 i0 Tryz.underlying22 hi h1 w.heap.size _ (n - k) (n - k) rfl n _ (hown.pure (gr_drew (World.grownBy.refl _ _))) k (by first | rfl | exact (Nat.mul_one _).symm) (by simp; omega) (by simp; omega) _ k _ rfl 0 (List.replicate k x) (hsl.pure (gr_drew (World.grownBy.refl _ _))) (by simp) ?_
          intro w4 hown4 hg4
          rw [e2.out] at hown4
          have hgw4 : w.grownBy w4 none := gr_new (gr_drew hg) hg4 (Nat.le_refl _)
          obtain ⟨m, hm⟩ : ∃ m, min k (n - k) = m := ⟨_, rfl⟩
          rw [hm] at hown4
          have hm' : 1 ≤ m ∧ k + m ≤ n := by omega
          have e3 : List.replicate k x ++ (List.replicate k x).take m ++ (List.replicate k x ++ rest).drop (k + m) = List.replicate (k + m) x ++ rest.drop m := by
            rw [List.take_replicate, Nat.min_eq_left (by omega), ← List.replicate_append_replicate, List.drop_append, List.drop_of_length_le (by simp), List.nil_append, List.length_replicate, Nat.add_sub_cancel_left]
          rw [e3] at hown4
          have hm := hide hm
          clear e3 hown hsl
          rw [hm.out]
          (go_simp; refine hK _ _ trivial ?_; clear hK K)
          iterate 2 ((refine mix_b rfl rfl _ rfl (by simp) (fun K hK => ?_); apply Exists.intro; refine ⟨fun wq hq K' hK' => ?_, ?_⟩; (focus (go_wp2_with fail; exact hK')); go_simp; refine hK _ ?_; clear hK K))
          refine mix_nil ?_
          go_wp2
          go_roundw
          case rel => exact ⟨k + m, rest.drop m, by omega, by omega, by go_num, by simp; omega, hown4, hgw4⟩
          case measure => simp [intOf]; omega
        · have hkn : k = n := by omega
          subst hkn
          have hr0 : rest = [] := List.eq_nil_of_length_eq_zero (by omega)
          subst hr0
          go_wp2
          go_ret
          exact ⟨_, _, rfl, by simpa using hown, hg⟩

def ndsF (l : List Int) : Int := if 8 < l.length then 2 else if l.any (fun v => outB v 1 1000000000) then 1 else 0

theorem ndsF_zero {l : List Int} (h : ndsF l = 0) : l.length ≤ 8 ∧ ∀ v ∈ l, 1 ≤ v ∧ v ≤ 1000000000 := by
  unfold ndsF at h
  by_cases h1 : 8 < l.length
  · rw [if_pos h1] at h; cases h
  · rw [if_neg h1] at h
    refine ⟨by omega, fun v hv => ?_⟩
    have h2 : ¬ l.any (fun v => outB v 1 1000000000) = true := fun hc => by rw [if_pos hc] at h; cases h
    have h3 : ¬ outB v 1 1000000000 = true := fun hc => h2 (List.any_eq_true.2 ⟨v, hv, hc⟩)
    unfold outB at h3
    simp at h3
    omega

set_option maxHeartbeats 2000000 in
theorem needsFault_any (A : Option Addr) (c : Nat) (l : List Int) (w : World) (hl : Sl w 0 A l) (h9 : l.length ≤ 1000) :
    Calls Tryz.prog 9 #[.slice A l.length c] w fun e w' => e = .returned (.int .i64 (ndsF l)) ∧ w.grownBy w' none := by
  by_cases h8 : 8 < l.length
  · have hV : Hid (ndsF l = 2) := by unfold Hid ndsF; rw [if_pos h8]
    have hb : decide ((l.length : Int) > 8) = true := by simp; omega
    have hb2 : decide (8 < l.length) = true := by simp; omega
    generalize ndsF l = V at *
    go_enter Tryz.func9, Tryz.ntmps9
    go_wp2_with fail
    go_ret
    exact ⟨ret_int hV.out.symm, World.grownBy.refl _ _⟩
  · have hV : Hid (ndsF l = if l.any (fun v => outB v 1 1000000000) then 1 else 0) := by unfold Hid ndsF; rw [if_neg h8]
    have hb : decide ((l.length : Int) > 8) = false := by simp; omega
    have hb2 : decide (8 < l.length) = false := by simp; omega
    generalize ndsF l = V at *
    go_enter Tryz.func9, Tryz.ntmps9
    go_wp2_with fail
    go_loopw [10] (fun i wr => ∃ k : Nat, k ≤ l.length ∧ i = .int .i64 k ∧ w.grownBy wr none ∧ Hid ((l.take k).any (fun v => outB v 1 1000000000) = false)) (fun i _ => l.length - (intOf i).toNat)
    case atStart => exact ⟨0, Nat.zero_le _, rfl, World.grownBy.refl _ _, by simp [Hid]⟩
    case round =>
      obtain ⟨k, hk, rfl, hg, hall⟩ := hrel
      by_cases hlt : k < l.length
      · obtain ⟨g1, o1, cx1, rfl, -, -, rfl, hc⟩ := ((hl.pure hg)).at_ (by decide) hlt
        have d1 : wr.cell? ⟨g1, o1 + k, none⟩ = some (.int .i64 l[k]) := by
          have h1 := hc 0 _ rfl
          rwa [show Enc.sz Int = 1 from rfl, Nat.mul_one] at h1
        clear hc
        have hst : Hid ((l.take (k + 1)).any (fun v => outB v 1 1000000000) = ((l.take k).any (fun v => outB v 1 1000000000) || outB l[k] 1 1000000000)) := by
          rw [Hid, List.take_succ_eq_append_getElem hlt, List.any_append]; simp
        have hyes : Hid (outB l[k] 1 1000000000 = true → V = 1) := fun h => by
          rw [hV.out, if_pos]
          exact List.any_eq_true.2 ⟨_, List.getElem_mem hlt, h⟩
        generalize l[k] = v at *
        have hin : Hid (inB v 1 1000000000 = !outB v 1 1000000000) := in_outS v 1 1000000000
        have hC := hide (in_any v 1 1000000000 wr)
        rw [hin.out] at hC
        generalize outB v 1 1000000000 = B at *
        rcases B with _ | _
        · have hnx : Hid ((l.take (k + 1)).any (fun v => outB v 1 1000000000) = false) := by rw [Hid, hst.out, hall.out]; rfl
          clear hst hyes hall hin
          go_wp2_with fail
          refine hC.out.mono ?_
          rintro e w2 ⟨rfl, rfl⟩
          go_wp2_with fail
          (go_roundw; (case rel => exact ⟨k + 1, by omega, by go_num, hg, hnx⟩); (case measure => simp [intOf]; omega))
        · have hR := hide (hyes.out rfl)
          clear hst hyes hall hin
          go_wp2_with fail
          refine hC.out.mono ?_
          rintro e w2 ⟨rfl, rfl⟩
          go_wp2_with fail
          go_ret
          exact ⟨ret_int hR.out.symm, hg⟩
      · have hR : Hid (V = 0) := by
          have h1 := hall.out
          rw [List.take_of_length_le (by omega)] at h1
          rw [Hid, hV.out, if_neg (by rw [h1]; decide)]
        clear hall hV
        go_wp2_with fail
        go_ret
        exact ⟨ret_int hR.out.symm, hg⟩

/-- a list of numbers of its own -/
def NLst (b : Nat) (N : Int) (w : World) (e : Ending) (w' : World) : Prop := ∃ (l : List Int) (A : Option Addr) (c : Nat), e = .returned (.slice A l.length c) ∧ Own w' (b + 1) 3 A c l ∧ l.length ≤ 9 ∧ SOut b N w w'

set_option maxHeartbeats 4000000 in
set_option maxRecDepth 100000 in
theorem needList_any (b : Nat) (N : Int) (w : World) (hs : Strm w b N) (hN : N ≤ 1000000000) :
    Calls Tryz.prog 7 #[.pointer (some ⟨b, 0, none⟩)] w (NLst b (N + 40) w) := by
  have hbw := hs.lt
  go_enter Tryz.func7, Tryz.ntmps7
  go_wp2_with fail
  refine (range_any b N _ _ _ hs (by omega) (by omega) (by omega) (by omega)).mono ?_
  rintro e w1 ⟨r, rfl, hr, ho1⟩
  obtain ⟨r, rfl⟩ := Int.eq_ofNat_of_zero_le (show 0 ≤ r by omega)
  have ho := (SOut.refl hs).trans ho1
  have hr4 : (r : Int) ≤ 4 := by omega
  have hgs := ho1.size
  have hb1 : b < w1.heap.size := by omega
  clear ho1
  go_wp2_with fail
  go_loopw [3, 6] (fun o i wr => ∃ (k : Nat) (l : List Int) (A' : Option Addr) (c' : Nat), k ≤ r ∧ i = .int .i64 k ∧ o = .slice A' l.length c' ∧ Hid (l.length = k) ∧ Own wr w1.heap.size 3 A' c' l ∧ SOut b (N + 1 + k) w wr ∧ w1.heap.size ≤ wr.heap.size) (fun _ i _ => r - (intOf i).toNat)
  case atStart => exact ⟨0, [], none, 0, Nat.zero_le _, rfl, rfl, rfl, Own.nil _ _ _, ho.mono (by omega), Nat.le_refl _⟩
  case round =>
    clear ho
    obtain ⟨k, l, A', c', hk, rfl, rfl, hlk, hown, ho, hsz0⟩ := hrel
    by_cases hlt : k < r
    · go_wp2_with fail
      refine (pick_any b (N + 1 + k) _ _ _ [1, 5, 10, 40, 50, 60] _ (ho.2.pure (gr_alloc (World.grownBy.refl _ _) _)) (by omega) (sl_intsAt _ _ _ _ _ (by first | rfl | simp) (by have := ho.2.lt; omega) (by simp [maxLen])) rfl (by simp)).mono ?_
      rintro e w2 ⟨z, rfl, hz, ho2⟩
      have hg0 := gr_alloc (World.grownBy.refl wr none) (.cells #[.int .i64 1, .int .i64 5, .int .i64 10, .int .i64 40, .int .i64 50, .int .i64 60] 3)
      replace ho := (ho.pure hg0).trans ho2
      replace hown := (hown.pure hg0).s ho2 hb1
      have hsz2 := ho2.size
      have hsz3 := hg0.size
      have hsz4 : w1.heap.size ≤ w2.heap.size := Nat.le_trans hsz0 (Nat.le_trans hsz3 hsz2)
      have hl4 : Hid (l.length ≤ 4) := by show _ ≤ _; rw [hlk.out]; omega
      clear hg0 ho2 hz
      go_wp2_with (at_builtin; obtain ⟨i0, hi, hz, h1, h2⟩ := info_parts info_int; refine wpList_push (α := Int) _ rfl (.tmp 8) (.tmp 12) _ rfl w1.heap.size 3 i0 _ 8 Tryz.underlying22 hi hz h1 h2 rfl _ _ _ l rfl ?c1 (by exact (hown.pure (gr_alloc (World.grownBy.refl _ _) _))) 0 ⟨_, 0, none⟩ 1 1 [z] rfl rfl (by exact sl_int1 _ _ _ _ (by first | rfl | simp)) ?c2 ?c3 ?c4 ?_)
      case c1 => rfl
      case c2 => have := hl4.out; first | omega | (simp; omega)
      case c3 => have := hl4.out; first | (simp [maxLen]; omega) | (unfold maxLen; omega)
      case c4 => first | omega | (simp; omega)
      intro A5 c5 w5 hown5 hup5
      have ho5 := (ho.al (.cells #[.int .i64 z] 3)).upd (lo := w1.heap.size) (by omega) hb1 hup5
      have hsz5 := hup5.size
      simp at hsz5
      have hln : Hid ((l ++ [z]).length = k + 1) := by rw [Hid, List.length_append, hlk.out]; rfl
      go_wp2
      (go_roundw; (case rel => exact ⟨k + 1, l ++ [z], A5, c5, by omega, by go_num, by simp, hln, hown5, ho5.mono (by omega), by omega⟩); (case measure => simp [intOf]; omega))
    · have hkn : k = r := by omega
      subst hkn
      have hl4 : l.length ≤ 4 := by rw [hlk.out]; omega
      clear hlk
      by_cases h0 : 0 < l.length
      · have hb0 : decide ((l.length : Int) > 0) = true := by simp; omega
        have hb02 : decide (0 < l.length) = true := by simp; omega
        go_wp2_with fail
        refine (flip_any b _ _ _ ho.2 (by omega) (by omega)).mono ?_
        rintro e w2 ⟨fl, rfl, ho2⟩
        have ho12 := ho.trans ho2
        have hown2 := hown.s ho2 hb1
        have hsz2 := ho2.size
        clear ho2 hown ho
        cases fl
        · go_wp2_with fail
          refine (flip_any b _ _ _ (ho12).2 (by omega) (by omega)).mono ?_
          rintro e wf ⟨f2, rfl, hof⟩
          have hoz := (ho12).trans hof
          have hownz := (hown2).s hof hb1
          have hszf := hof.size
          clear hof hown2 ho12
          cases f2
          · go_wp2_with fail
            go_ret
            exact ⟨l, _, _, rfl, hownz.lower (by omega), by omega, hoz.mono (by omega)⟩
          · go_wp2_with fail
            refine (repeatI_any _ 1 9 1 _ (sl_int1 _ _ _ _ (by first | rfl | simp)) (by omega)).mono ?_
            rintro e w9 ⟨A9, c9, rfl, hO9, hg9⟩
            have hoq := (hoz.al (.cells #[.int .i64 1] 3)).pure hg9
            go_wp2_with fail
            go_ret
            exact ⟨List.replicate 9 1, A9, c9, by simp, hO9.lower (by simp; omega), by simp, hoq.mono (by omega)⟩
        · go_wp2_with fail
          refine (next_any b _ _ _ ho12.2 (by omega) (by omega)).mono ?_
          rintro e w3 ⟨ix, rfl, hix, ho3⟩
          have ho13 := ho12.trans ho3
          have hown3 := hown2.s ho3 hb1
          have hsz3 := ho3.size
          clear ho3 hown2 ho12
          go_wp2_with fail
          refine (odd_any b _ _ _ _ ho13.2 (by omega) (by omega) (by omega) (by omega)).mono ?_
          rintro e w4 ⟨z, rfl, hz, ho4⟩
          have ho14 := ho13.trans ho4
          have hown4 := hown3.s ho4 hb1
          have hsz4 := ho4.size
          clear ho4 hown3 ho13
          obtain ⟨g, rfl, hg1, hg2⟩ := hown4.shape h0
          obtain ⟨q, rfl⟩ := Int.eq_ofNat_of_zero_le hix.1
          have hql : q < l.length := by omega
          have hcl := hown4.cell_int hql
          have hcf := hown4.frozen q
          have hown5 := hown4.set_int q z
          have ho5 := ho14.set hbw (p := ⟨g, q, none⟩) (by simp only; omega) (.int .i64 z)
          have hl5 : Hid ((l.set q z).length = l.length) := by rw [Hid, List.length_set]
          have hl5b : (l.set q z).length ≤ 9 := by rw [List.length_set]; omega
          clear hown4 ho14 hix
          go_upto_region 8 with fail
          obtain ⟨w5, hw5⟩ : ∃ y, y = w4.setCell ⟨g, q, none⟩ (.int .i64 z) := ⟨_, rfl⟩
          have hsz5 : w4.heap.size ≤ w5.heap.size := by rw [hw5]; simp
          rw [← hw5] at hown5 ho5 ⊢
          clear hw5 hcl hcf
          rw [← hl5.out]
          clear hl5
          generalize l.set q z = l at *
          go_wp2_with fail
          refine (flip_any b _ _ _ (ho5).2 (by omega) (by omega)).mono ?_
          rintro e wf ⟨f2, rfl, hof⟩
          have hoz := (ho5).trans hof
          have hownz := (hown5).s hof hb1
          have hszf := hof.size
          clear hof hown5 ho5
          cases f2
          · go_wp2_with fail
            go_ret
            exact ⟨l, _, _, rfl, hownz.lower (by omega), by omega, hoz.mono (by omega)⟩
          · go_wp2_with fail
            refine (repeatI_any _ 1 9 1 _ (sl_int1 _ _ _ _ (by first | rfl | simp)) (by omega)).mono ?_
            rintro e w9 ⟨A9, c9, rfl, hO9, hg9⟩
            have hoq := (hoz.al (.cells #[.int .i64 1] 3)).pure hg9
            go_wp2_with fail
            go_ret
            exact ⟨List.replicate 9 1, A9, c9, by simp, hO9.lower (by simp; omega), by simp, hoq.mono (by omega)⟩
      · have hb0 : decide ((l.length : Int) > 0) = false := decide_eq_false (by omega)
        have hb02 : decide (0 < l.length) = false := decide_eq_false (by omega)
        go_wp2_with fail
        refine (flip_any b _ _ _ (ho).2 (by omega) (by omega)).mono ?_
        rintro e wf ⟨f2, rfl, hof⟩
        have hoz := (ho).trans hof
        have hownz := (hown).s hof hb1
        have hszf := hof.size
        clear hof hown ho
        cases f2
        · go_wp2_with fail
          go_ret
          exact ⟨l, _, _, rfl, hownz.lower (by omega), by omega, hoz.mono (by omega)⟩
        · go_wp2_with fail
          refine (repeatI_any _ 1 9 1 _ (sl_int1 _ _ _ _ (by first | rfl | simp)) (by omega)).mono ?_
          rintro e w9 ⟨A9, c9, rfl, hO9, hg9⟩
          have hoq := (hoz.al (.cells #[.int .i64 1] 3)).pure hg9
          go_wp2_with fail
          go_ret
          exact ⟨List.replicate 9 1, A9, c9, by simp, hO9.lower (by simp; omega), by simp, hoq.mono (by omega)⟩

end Go.Proofs.YtpdhbhlnopmifaaGreatDoor
