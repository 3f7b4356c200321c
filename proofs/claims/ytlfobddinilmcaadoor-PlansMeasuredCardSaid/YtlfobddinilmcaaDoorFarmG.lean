/- Contracts of functions that this seat's laws reach, each: what one call returns and what it leaves in memory; no condition beyond each theorem's own hypotheses. -/
import Derived.Test.YtlfobddinilmcaaDoorFarmF
set_option linter.unusedVariables false
set_option linter.unusedSimpArgs false
namespace Go.Proofs.YtlfobddinilmcaaDoor
open Go.RowKit Go.Bl

theorem info_boolF : (Tryd.prog.info? 4).map (fun i => (i.zero, i.size, i.bytes)) = some (some (.bool false), 1, 1) := by kernel_rfl

def GoodK (n : Nat) (L : List Int) (q : Nat) : Prop := ∀ i (h : i < L.length), i < q → 0 ≤ L[i] ∧ L[i] < n ∧ memI (L.take i) L[i] = false

set_option maxHeartbeats 4000000 in
set_option maxRecDepth 100000 in
theorem checkPlan_any (A : Option Addr) (c : Nat) (p : List Prn) (B : Option Addr) (d : Nat) (j : List Jb) (C : Option Addr) (e0 : Nat) (plan : List (List Int)) (w : World) (hp : Sl w 0 A p) (hj : Sl w 0 B j) (hpl : Sl w 0 C plan) :
    Calls Tryd.prog 13 #[.slice A p.length c, .slice B j.length d, .slice C plan.length e0] w fun e w' => e = .returned (.int .i64 (planF p j plan)) ∧ w.grownBy w' none := by
  have hj1 := hj.1
  unfold maxLen at hj1
  have hpm := hpl.1
  unfold maxLen at hpm
  have hV : Hid (planF p j plan = if farmF p j ≠ 0 then farmF p j else if plan.length ≠ p.length then 3 else planK j.length plan.flatten 0) := rfl
  go_enter Tryd.func13, Tryd.ntmps13
  go_wp2_with fail
  refine (fault_any _ _ _ _ _ _ _ hp hj).mono ?_
  rintro e w1 ⟨rfl, hg1⟩
  by_cases h0 : farmF p j = 0
  · have hb : (farmF p j != 0) = false := by simp [h0]
    have hj5 : j.length ≤ 500 := by
      unfold farmF at h0
      by_cases hz : prnsF p = 0
      · rw [if_pos hz] at h0; unfold jbsF at h0
        by_cases hq : 500 < j.length
        · rw [if_pos hq] at h0; cases h0
        · omega
      · rw [if_neg hz] at h0; exact absurd h0 hz
    replace h0 := hide h0
    by_cases h1 : plan.length = p.length
    · have hb2 : ((plan.length : Int) != p.length) = false := by simp [h1]
      have hV2 : Hid (planF p j plan = planK j.length plan.flatten 0) := by rw [Hid, hV.out, if_neg (by simp [h0.out]), if_neg (by simp [h1])]
      clear hV h1
      obtain ⟨i0, hi, hz, hi1, hi2⟩ := info_parts info_boolF
      obtain ⟨w2, hrun, hoS, hg2⟩ := run_makeOwn (P := Tryd.prog) w1 77 4 i0 _ false Tryd.underlying77 hi hz hi1 rfl rfl .i64 .i64 j.length (by rw [hi2]; omega) (by simp [maxLen]; omega)
      clear hi hz hi1 hi2 i0
      rw [← seenN_nil] at hoS
      obtain ⟨gs, hgs⟩ : ∃ g, g = w1.heap.size := ⟨_, rfl⟩
      rw [← hgs] at hrun hoS
      have hgs1 : gs < w2.heap.size := (hoS.blk_lt (g := gs) rfl).2
      have hgs0 : w.heap.size ≤ gs := by rw [hgs]; exact hg1.size
      have hgw : w.grownBy w2 none := hg1.t hg2
      clear hgs
      replace hoS := hoS.lower hgs0
      obtain ⟨L, hL⟩ : ∃ L, L = plan.flatten := ⟨_, rfl⟩
      have hfa : Hid (flatK plan plan.length = L) := by rw [Hid, hL]; exact flatK_all (Nat.le_refl _)
      have hfg : Hid (∀ k m (hk : k < plan.length) (hm : m < plan[k].length), ∃ h : (flatK plan k).length + m < L.length, L[(flatK plan k).length + m] = plan[k][m]) := by rw [Hid, hL]; exact fun k m hk hm => flat_get hk hm
      rw [← hL] at hV2
      replace hL := hide hL
      go_wp2_with fail
      clear hrun hg1 hg2
      go_loopw [29] (fun i wr => ∃ k q : Nat, k ≤ plan.length ∧ i = .int .i64 k ∧ q = (flatK plan k).length ∧ Own wr w.heap.size 4 (some ⟨gs, 0, none⟩) j.length (seenN j.length (L.take q)) ∧ w.grownBy wr none ∧ Hid (planF p j plan = planK j.length L q) ∧ Hid (GoodK j.length L q)) (fun i _ => plan.length - (intOf i).toNat)
      case atStart => exact ⟨0, 0, Nat.zero_le _, rfl, rfl, hoS, hgw, hV2, fun i _ h => by omega⟩
      case round =>
        clear hoS hgw hgs1 hV2
        obtain ⟨k, q, hk, rfl, hq, hoS, hg, hX, hG⟩ := hrel
        by_cases hlt : k < plan.length
        · obtain ⟨g, o, Bk, dk, rfl, hb1, c0, hsl⟩ := sl_inner hpl hlt
          replace c0 := hg.k c0
          have hq2 : Hid ((flatK plan (k + 1)).length = q + plan[k].length) := by rw [Hid, flatK_snoc hlt, List.length_append, hq]
          have hfk : Hid (∀ m (hm : m < plan[k].length), ∃ h : q + m < L.length, L[q + m] = plan[k][m]) := by rw [hq]; exact fun m hm => hfg.out k m hlt hm
          replace hq := hide hq
          obtain ⟨pk, hpk⟩ : ∃ x, x = plan[k] := ⟨_, rfl⟩
          rw [← hpk] at c0 hsl hq2 hfk
          replace hpk := hide hpk
          have hpkm := hsl.1
          unfold maxLen at hpkm
          go_wp2_with fail
          go_loopw [35] (fun i wr => ∃ m : Nat, m ≤ pk.length ∧ i = .int .i64 m ∧ Own wr w.heap.size 4 (some ⟨gs, 0, none⟩) j.length (seenN j.length (L.take (q + m))) ∧ w.grownBy wr none ∧ Hid (planF p j plan = planK j.length L (q + m)) ∧ Hid (GoodK j.length L (q + m))) (fun i _ => pk.length - (intOf i).toNat)
          case atStart => exact ⟨0, Nat.zero_le _, rfl, hoS, hg, hX, hG⟩
          case round =>
            clear hoS hg hX hG c0
            obtain ⟨m, hmk, rfl, hoS, hg, hX, hG⟩ := hrel
            by_cases hml : m < pk.length
            · obtain ⟨hqm, hget⟩ := hfk.out m hml
              obtain ⟨g2, o2, cx, rfl, _, hb2', rfl, hc⟩ := (hsl.pure hg).at_ (by decide) hml
              have c0 : _ := hc 0 _ rfl
              rw [show Enc.sz Int = 1 from rfl, Nat.mul_one, Nat.add_zero, ← hget] at c0
              clear hc
              have hst := hide (planK_step (n := j.length) hqm)
              have hgd := hG.out
              generalize hxx : L[q + m] = x at *
              by_cases hr : x < 0 ∨ (j.length : Int) ≤ x
              · have hF : Hid (planF p j plan = 1) := by rw [Hid, hX.out, hst.out, if_pos hr]
                clear hst hX hgd hget hG
                by_cases hr1 : x < 0
                · have hd1 : decide (x < 0) = true := by simp [hr1]
                  clear hr
                  go_wp2_with fail
                  go_ret
                  exact ⟨ret_int hF.out.symm, hg⟩
                · have hd1 : decide (x < 0) = false := by simp; omega
                  have hd2 : decide (x ≥ (j.length : Int)) = true := by simp; omega
                  clear hr
                  go_wp2_with fail
                  go_ret
                  exact ⟨ret_int hF.out.symm, hg⟩
              · have hX2 : Hid (planF p j plan = if memI (L.take (q + m)) x then 6 else planK j.length L (q + m + 1)) := by rw [Hid, hX.out, hst.out, if_neg hr]
                have hd1 : decide (x < 0) = false := by simp; omega
                have hd2 : decide (x ≥ (j.length : Int)) = false := by simp; omega
                obtain ⟨i, rfl⟩ : ∃ i : Nat, x = (i : Int) := ⟨x.toNat, by omega⟩
                have hij : i < j.length := by omega
                have hlS : i < (seenN j.length (L.take (q + m))).length := by rw [seenN_len]; exact hij
                have s0 := hoS.cell_bool hlS
                have sf := hoS.frozen i
                rw [seenN_get] at s0
                clear hst hX hr hget hG
                replace hxx := hide hxx
                replace hgd := hide hgd
                rcases hv : memI (L.take (q + m)) (i : Int) with _ | _
                · rw [hv] at s0 hX2
                  have hse := seenN_set (n := j.length) hqm hxx.out
                  have hoS2 := hoS.set_bool hlS true
                  rw [← hse] at hoS2
                  have hG2 : Hid (GoodK j.length L (q + m + 1)) := fun i' hi' hlt' => by
                    by_cases e : i' = q + m
                    · subst e; rw [hxx.out]; exact ⟨by omega, by omega, hv⟩
                    · exact hgd.out i' hi' (by omega)
                  have hgs2 := gr_set hg (p := ⟨gs, i, none⟩) (.inr hgs0) (.bool true)
                  replace hX2 := hide hX2.out
                  clear hse hgd
                  go_wp2_with fail
                  (go_roundw; (case rel => exact ⟨m + 1, by omega, by go_num, hoS2, hgs2, hX2.out, hG2⟩); (case measure => simp [intOf]; omega))
                · rw [hv] at s0 hX2
                  replace hX2 := hide (hX2.out.trans (if_pos rfl))
                  go_wp2_with fail
                  go_ret
                  exact ⟨ret_int hX2.out.symm, hg⟩
            · have hm2 : m = pk.length := by omega
              subst hm2
              go_wp2_with fail
              (go_roundw; (case rel => exact ⟨k + 1, q + pk.length, by omega, by go_num, hq2.out.symm, hoS, hg, hX, hG⟩); (case measure => simp [intOf]; omega))
        · have hq3 : Hid (planF p j plan = if L.length < j.length then 8 else 0) := by
            have : q = L.length := by rw [hq, show k = plan.length by omega, hfa.out]
            rw [Hid, hX.out, this, planK_end]
          have hse : Hid ((seenN j.length (L.take q)).contains false = decide (L.length < j.length)) := by
            have : q = L.length := by rw [hq, show k = plan.length by omega, hfa.out]
            rw [Hid, this, List.take_length]
            exact seenN_all fun i hh => hG.out i hh (by omega)
          have hC := containsBool_any _ j.length _ _ (hoS.sl.mono (Nat.zero_le _))
          rw [seenN_len, hse.out] at hC
          go_wp2_with fail
          refine hC.mono ?_
          rintro e w4 ⟨rfl, hg4⟩
          by_cases hb3 : L.length < j.length
          · have hb4 : decide (L.length < j.length) = true := by simp [hb3]
            rw [hb4]
            replace hq3 := hide (hq3.out.trans (if_pos hb3))
            clear hb3 hb4
            go_wp2_with fail
            go_ret
            exact ⟨ret_int hq3.out.symm, hg.t hg4⟩
          · have hb4 : decide (L.length < j.length) = false := by simp; omega
            rw [hb4]
            replace hq3 := hide (hq3.out.trans (if_neg hb3))
            clear hb3 hb4
            go_wp2_with fail
            go_ret
            exact ⟨ret_int hq3.out.symm, hg.t hg4⟩
    · have hb2 : ((plan.length : Int) != p.length) = true := by simp; omega
      have hV2 : Hid (planF p j plan = 3) := by rw [Hid, hV.out, if_neg (by simp [h0.out]), if_pos h1]
      clear hV h1
      go_wp2_with fail
      go_ret
      exact ⟨ret_int hV2.out.symm, hg1⟩
  · have hb : (farmF p j != 0) = true := by simp [h0]
    have hV2 : Hid (planF p j plan = farmF p j) := by rw [Hid, hV.out, if_pos h0]
    clear h0 hV
    go_wp2_with fail
    go_ret
    exact ⟨ret_int hV2.out.symm, hg1⟩
end Go.Proofs.YtlfobddinilmcaaDoor
