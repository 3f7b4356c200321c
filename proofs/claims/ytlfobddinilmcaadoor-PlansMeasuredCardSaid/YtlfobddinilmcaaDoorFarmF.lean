/- Contracts of functions that this seat's laws reach, each: what one call returns and what it leaves in memory; no condition beyond each theorem's own hypotheses. -/
import Derived.Test.YtlfobddinilmcaaDoorFarmE
import Derived.Test.YtlfobddinilmcaaDoorPlanData
set_option linter.unusedVariables false
set_option linter.unusedSimpArgs false
namespace Go.Proofs.YtlfobddinilmcaaDoor
open Go.RowKit Go.Bl

theorem contains_snoc {l : List Bool} {k : Nat} (h : k < l.length) (b : Bool) : (l.take (k + 1)).contains b = ((l.take k).contains b || b == l[k]) := by
  rw [take_snoc h, Bool.eq_iff_iff]; simp only [List.contains_iff_mem, List.mem_append, List.mem_singleton, Bool.or_eq_true, beq_iff_eq]

set_option maxHeartbeats 800000 in
theorem indexBool_any (A : Option Addr) (c : Nat) (l : List Bool) (w : World) (hl : Sl w 0 A l) :
    Calls Tryd.prog 75 #[.slice A l.length c, .bool false] w fun e w' => (∃ n : Int, e = .returned (.int .i64 n) ∧ decide (n ≥ 0) = l.contains false) ∧ w.grownBy w' none := by
  have hm := hl.1
  unfold maxLen at hm
  go_enter Tryd.func75, Tryd.ntmps75
  go_wp2_with fail
  go_loopw [8] (fun i wr => ∃ k : Nat, k ≤ l.length ∧ i = .int .i64 k ∧ w.grownBy wr none ∧ Hid ((l.take k).contains false = false)) (fun i _ => l.length - (intOf i).toNat)
  case atStart => exact ⟨0, Nat.zero_le _, rfl, World.grownBy.refl _ _, by simp [Hid]⟩
  case round =>
    obtain ⟨k, hk, rfl, hg, hall⟩ := hrel
    by_cases hlt : k < l.length
    · obtain ⟨g, o, cx, rfl, hb0, hb1, rfl, hc⟩ := (hl.pure hg).at_ (by decide) hlt
      have c0 : wr.cell? ⟨g, o + k, none⟩ = some (.bool l[k]) := by have := hc 0 _ rfl; rwa [show Enc.sz Bool = 1 from rfl, Nat.mul_one] at this
      clear hc
      have HS : Hid ((l.take (k + 1)).contains false = (false == l[k])) := by rw [Hid, contains_snoc hlt, hall.out, Bool.false_or]
      have HT : Hid (l[k] = false → l.contains false = true) := fun h => List.contains_iff_mem.2 (h ▸ List.getElem_mem hlt)
      rcases hv : l[k] with _ | _
      · rw [hv] at c0
        replace HT := hide (HT.out hv)
        clear hv HS hall
        go_wp2_with fail
        go_ret
        exact ⟨⟨_, rfl, by rw [HT.out]; simp⟩, hg⟩
      · rw [hv] at c0
        replace HS := HS.out
        rw [hv] at HS
        replace HS := hide HS
        clear hv HT
        go_wp2_with fail
        (go_roundw; (case rel => exact ⟨k + 1, by omega, by go_num, hg, HS.out⟩); (case measure => simp [intOf]; omega))
    · have HB : Hid (l.contains false = false) := by have := hall.out; rwa [List.take_of_length_le (by omega)] at this
      go_wp2_with fail
      go_ret
      exact ⟨⟨_, rfl, by rw [HB.out]; simp⟩, hg⟩

set_option maxHeartbeats 800000 in
theorem containsBool_any (A : Option Addr) (c : Nat) (l : List Bool) (w : World) (hl : Sl w 0 A l) :
    Calls Tryd.prog 46 #[.slice A l.length c, .bool false] w fun e w' => e = .returned (.bool (l.contains false)) ∧ w.grownBy w' none := by
  go_enter Tryd.func46, Tryd.ntmps46
  go_wp2_with fail
  refine (indexBool_any _ _ _ _ hl).mono ?_
  rintro e w1 ⟨⟨n, rfl, hn⟩, hg⟩
  replace hn := hide hn
  go_wp2_with fail
  go_ret
  exact ⟨ret_bool hn.out, hg⟩

set_option maxHeartbeats 2000000 in
theorem planFault_any (A : Option Addr) (c : Nat) (p : List Prn) (B : Option Addr) (d : Nat) (j : List Jb) (C : Option Addr) (e0 : Nat) (plan : List (List Int)) (w : World) (hp : Sl w 0 A p) (hj : Sl w 0 B j) (hpl : Sl w 0 C plan) (hsum : (flatK plan plan.length).length ≤ 1000000) :
    Calls Tryd.prog 14 #[.slice A p.length c, .slice B j.length d, .slice C plan.length e0] w fun e w' => e = .returned (.int .i64 (planF p j plan)) ∧ w.grownBy w' none := by
  have hj1 := hj.1
  unfold maxLen at hj1
  have hV : Hid (planF p j plan = if farmF p j ≠ 0 then farmF p j else if plan.length ≠ p.length then 3 else planK j.length plan.flatten 0) := rfl
  go_enter Tryd.func14, Tryd.ntmps14
  go_wp2_with fail
  refine (farmFault_any _ _ _ _ _ _ _ hp hj).mono ?_
  rintro e w1 ⟨rfl, hg1⟩
  by_cases h0 : farmF p j = 0
  · have hb : (farmF p j != 0) = false := by simp [h0]
    replace h0 := hide h0
    by_cases h1 : plan.length = p.length
    · have hb2 : ((plan.length : Int) != p.length) = false := by simp [h1]
      have hV2 : Hid (planF p j plan = planK j.length plan.flatten 0) := by rw [Hid, hV.out, if_neg (by simp [h0.out]), if_neg (by simp [h1])]
      clear hV h1
      go_wp2_with fail
      refine (concatInts_any _ _ _ _ (hpl.pure hg1) hsum).mono ?_
      rintro e w2 ⟨A', c', rfl, hown, hg2⟩
      have hL : flatK plan plan.length = plan.flatten := flatK_all (Nat.le_refl _)
      rw [hL] at hown hsum ⊢
      clear hL hpl
      generalize plan.flatten = L at *
      have hgw : w.grownBy w2 none := hg1.t hg2
      replace hown := hown.lower hg1.size
      go_wp2_with fail
      have hsl := hown.sl
      have hm := hsl.1
      unfold maxLen at hm
      go_loopw [26] (fun i wr => ∃ k : Nat, k ≤ L.length ∧ i = .int .i64 k ∧ w2.grownBy wr none ∧ Hid (planK j.length L 0 = planK j.length L k)) (fun i _ => L.length - (intOf i).toNat)
      case atStart => exact ⟨0, Nat.zero_le _, rfl, World.grownBy.refl _ _, rfl⟩
      case round =>
        obtain ⟨k, hk, rfl, hg, hall⟩ := hrel
        by_cases hlt : k < L.length
        · obtain ⟨g, o, cx, rfl, hb0, hb1, rfl, hc⟩ := (hsl.pure hg).at_ (by decide) hlt
          have c0 : wr.cell? ⟨g, o + k, none⟩ = some (.int .i64 L[k]) := by have := hc 0 _ rfl; rwa [show Enc.sz Int = 1 from rfl, Nat.mul_one] at this
          clear hc
          have hst := hide (planK_step (n := j.length) hlt)
          have hcap := hown.cap
          rcases h3 : inB L[k] 0 (j.length - 1) with _ | _
          · have hr : Hid (planF p j plan = 1) := by
              rw [Hid, hV2.out, hall.out, hst.out, if_pos]
              unfold inB at h3; simp at h3; omega
            clear hst hall
            go_wp2_with (go_at_call 44; refine (in_any _ _ _ _).mono ?_; rintro _ _ ⟨rfl, rfl⟩)
            go_ret
            exact ⟨ret_int hr.out.symm, hgw.t hg⟩
          · have hr : Hid (planK j.length L k = if memI (L.take k) L[k] then 6 else planK j.length L (k + 1)) := by
              rw [Hid, hst.out, if_neg]
              unfold inB at h3; simp at h3; omega
            clear hst
            go_wp2_with (go_at_call 44; refine (in_any _ _ _ _).mono ?_; rintro _ _ ⟨rfl, rfl⟩)
            have hcz : ∀ i, i < L.length → wr.cell? ⟨g, o + i, none⟩ = some (.int .i64 (L.getD i 0)) := fun i hi => by
              obtain ⟨g', o', cx, e, _, _, rfl, hc⟩ := (hsl.pure hg).at_ (by decide) hi
              cases e
              have := hc 0 _ rfl; rw [show Enc.sz Int = 1 from rfl, Nat.mul_one] at this
              rw [List.getD_eq_getElem?_getD, List.getElem?_eq_getElem hi]; exact this
            refine (Tryd.slices_Contains_int g o k _ L _ _ (by omega) (by omega) hcz).mono ?_
            rintro e w3 ⟨rfl, rfl⟩
            have hmm : (L.take k).contains L[k] = memI (L.take k) L[k] := by unfold memI; rw [Bool.eq_iff_iff]; simp
            rw [hmm]
            clear hmm hcz
            rcases h4 : memI (L.take k) L[k] with _ | _
            · rw [h4] at hr
              replace hr := hide (hall.out.trans hr.out)
              clear hall h4
              go_wp2_with fail
              (go_roundw; (case rel => exact ⟨k + 1, by omega, by go_num, hg, hr.out⟩); (case measure => simp [intOf]; omega))
            · rw [h4] at hr
              replace hr := hide (hV2.out.trans (hall.out.trans hr.out))
              clear hall h4
              go_wp2_with fail
              go_ret
              exact ⟨ret_int hr.out.symm, hgw.t hg⟩
        · have hr : Hid (planF p j plan = if L.length < j.length then 8 else 0) := by
            rw [Hid, hV2.out, hall.out, show k = L.length by omega, planK_end]
          go_wp2_with fail
          refine (noneFault_any _ _).mono ?_
          rintro e w3 ⟨rfl, rfl⟩
          have hb3 : (if decide (L.length < j.length) = true then (8 : Int) else 0) = planF p j plan := by rw [hr.out]; simp
          rw [hb3]
          clear hb3
          go_wp2_with fail
          go_ret
          exact ⟨rfl, hgw.t hg⟩
    · have hb2 : ((plan.length : Int) != p.length) = true := by simp; omega
      have hV2 : Hid (planF p j plan = 3) := by rw [Hid, hV.out, if_neg (by simp [h0.out]), if_pos h1]
      clear hV h1
      go_wp2_with fail
      go_ret
      exact ⟨ret_int hV2.out.symm, hg1⟩
  · have hb : (farmF p j != 0) = true := by simp [h0]
    have hV2 : Hid (planF p j plan = farmF p j) := by rw [Hid, hV.out, if_pos h0]
    clear h0 hV
    go_wp2_with fail
    go_ret
    exact ⟨ret_int hV2.out.symm, hg1⟩
end Go.Proofs.YtlfobddinilmcaaDoor
