/- Contracts of functions that this seat's laws reach, each: what one call returns and what it leaves in memory; no condition beyond each theorem's own hypotheses. -/
import Derived.Test.YtlfobddinilmcaaDoorFarmR
set_option linter.unusedVariables false
set_option linter.unusedSimpArgs false
namespace Go.Proofs.YtlfobddinilmcaaDoor
open Go Go.RowKit Go.Bl

theorem planned_or (p : List Prn) (j : List Jb) (plan : List (List Int)) (ch : Int) : orL [planF p j plan, spanF ch 0 100000] = plannedF p j plan ch := by rw [or2]; rfl

theorem planned_farm {p : List Prn} {j : List Jb} {plan : List (List Int)} {ch : Int} (h : plannedF p j plan ch = 0) : farmF p j = 0 := by
  unfold plannedF at h
  by_cases h0 : planF p j plan = 0
  · unfold planF at h0
    by_cases h1 : farmF p j = 0
    · exact h1
    · rw [if_pos (by simpa using h1)] at h0; exact absurd h0 h1
  · rw [if_neg h0] at h; exact absurd h h0

set_option maxHeartbeats 4000000 in
set_option maxRecDepth 100000 in
theorem plansMeasured_law (A : Option Addr) (n c : Nat) (L : List Int) (w : World) (hL : Sl w 0 A L) (hn : L.length = n) :
    Calls Tryd.prog 3 #[.slice A n c] w fun e w' => e = .returned (.bool true) ∧ w.grownBy w' none := by
  have hs0 := strm_new (c := c) 25 hL hn
  have hg0 := gr_alloc (World.grownBy.refl w none) (.cells #[.slice A n c, .int .i64 0] 25)
  have hS0 := SOut.refl hs0
  go_enter Tryd.func3, Tryd.ntmps3
  go_wp2_with fail
  refine (printerList_any _ 0 3 _ hs0 (by omega) (by omega)).mono ?_
  rintro e w1 ⟨p, A1, c1, rfl, hp, hpl, -, ho1⟩
  replace hS0 := hS0.trans ho1
  go_wp2_with fail
  refine (jobList_any _ _ 5 _ hS0.2 (by omega) (by omega)).mono ?_
  rintro e w2 ⟨j, A2, c2, rfl, hj, hjl, -, ho2⟩
  replace hS0 := hS0.trans ho2
  replace hp := hp.gr ho2.1 (fun x e => by injection e; omega)
  go_wp2_with fail
  refine (changeTime_any _ _ _ hS0.2 (by omega)).mono ?_
  rintro e w3 ⟨ch, rfl, -, ho3⟩
  replace hS0 := hS0.trans ho3
  replace hp := hp.gr ho3.1 (fun x e => by injection e; omega)
  replace hj := hj.gr ho3.1 (fun x e => by injection e; omega)
  clear ho1 ho2 ho3 hs0
  go_wp2_with fail
  refine (aPlan_any _ _ _ _ p _ _ j _ hS0.2 (by omega) (by omega) (by omega)).mono ?_
  rintro e w4 ⟨plan, A4, c4, rfl, hpn, hfl, -, hpll, ho4⟩
  replace hS0 := hS0.trans ho4
  replace hp := (hp.gr ho4.1 (fun x e => by injection e; omega)).mono (Nat.zero_le _)
  replace hj := (hj.gr ho4.1 (fun x e => by injection e; omega)).mono (Nat.zero_le _)
  replace hpn := hpn.mono (Nat.zero_le _)
  have hgw : w.grownBy w4 none := gr_new hg0 hS0.1 (Nat.le_refl _)
  have hsum : (flatK plan plan.length).length ≤ 1000000 := by rw [flatK_all (Nat.le_refl _)]; omega
  have hF1 : Hid (plannedF p j plan ch = 0 → POk p j plan ch) := fun h => pok_of h
  have hF2 : Hid (plannedF p j plan ch = 0 → farmF p j = 0) := fun h => planned_farm h
  have hOr := hide (planned_or p j plan ch)
  have hEL := hide (endsF_len p j plan ch)
  clear hS0 ho4 hg0 hfl hpll hpl hjl
  go_wp2_with fail
  refine (checkPrinters_any _ _ _ _ hp).mono ?_
  rintro e x1 ⟨rfl, h1⟩
  replace hp := hp.pure h1
  replace hj := hj.pure h1
  replace hpn := hpn.pure h1
  replace hgw := gr_trans hgw h1
  clear h1
  go_wp2_with fail
  refine (printersFault_any _ _ _ _ hp).mono ?_
  rintro e x2 ⟨rfl, h1⟩
  replace hp := hp.pure h1
  replace hj := hj.pure h1
  replace hpn := hpn.pure h1
  replace hgw := gr_trans hgw h1
  clear h1
  go_wp2_with fail
  refine (checkJobs_any _ _ _ _ hj).mono ?_
  rintro e x3 ⟨rfl, h1⟩
  replace hp := hp.pure h1
  replace hj := hj.pure h1
  replace hpn := hpn.pure h1
  replace hgw := gr_trans hgw h1
  clear h1
  go_wp2_with fail
  refine (jobsFault_any _ _ _ _ hj).mono ?_
  rintro e x4 ⟨rfl, h1⟩
  replace hp := hp.pure h1
  replace hj := hj.pure h1
  replace hpn := hpn.pure h1
  replace hgw := gr_trans hgw h1
  clear h1
  go_wp2_with fail
  refine (checkPlan_any _ _ _ _ _ _ _ _ _ _ hp hj hpn).mono ?_
  rintro e x5 ⟨rfl, h1⟩
  replace hp := hp.pure h1
  replace hj := hj.pure h1
  replace hpn := hpn.pure h1
  replace hgw := gr_trans hgw h1
  clear h1
  go_wp2_with fail
  refine (planFault_any _ _ _ _ _ _ _ _ _ _ hp hj hpn hsum).mono ?_
  rintro e x6 ⟨rfl, h1⟩
  replace hp := hp.pure h1
  replace hj := hj.pure h1
  replace hpn := hpn.pure h1
  replace hgw := gr_trans hgw h1
  clear h1
  go_wp2_with fail
  refine (planFault_any _ _ _ _ _ _ _ _ _ _ hp hj hpn hsum).mono ?_
  rintro e x7 ⟨rfl, h1⟩
  replace hp := hp.pure h1
  replace hj := hj.pure h1
  replace hpn := hpn.pure h1
  replace hgw := gr_trans hgw h1
  clear h1
  clear hsum
  go_wp2_with (go_at_call 16; refine (changeFault_any _ _).mono ?_; rintro _ _ ⟨rfl, rfl⟩)
  refine (or_any _ _ _ [planF p j plan, spanF ch 0 100000] _ (sl_intsAt _ _ _ _ _ rfl (Nat.zero_le _) (by simp [maxLen])) rfl).mono ?_
  rintro e x8 ⟨rfl, h1⟩
  rw [hOr.out]
  replace h1 : x7.grownBy x8 none := by rw [← h1]; exact gr_alloc (World.grownBy.refl _ _) _
  replace hp := hp.pure h1
  replace hj := hj.pure h1
  replace hpn := hpn.pure h1
  replace hgw := gr_trans hgw h1
  clear h1
  go_wp2_with fail
  refine (endsTop_any _ _ _ _ _ _ _ _ _ _ _ hp hj hpn).mono ?_
  rintro e x9 ⟨A9, c9, rfl, hs9, h1⟩
  replace hp := hp.pure h1
  replace hj := hj.pure h1
  replace hpn := hpn.pure h1
  replace hgw := gr_trans hgw h1
  clear h1
  go_wp2_with fail
  refine (late_any _ _ _ _ _ _ _ _ _ _ _ hp hj hpn).mono ?_
  rintro e x10 ⟨A10, c10, rfl, hs10, h1⟩
  replace hs9 := hs9.pure h1
  replace hp := hp.pure h1
  replace hj := hj.pure h1
  replace hpn := hpn.pure h1
  replace hgw := gr_trans hgw h1
  clear h1
  go_wp2_with fail
  refine (bound_any _ _ _ _ _ _ _ hp hj).mono ?_
  rintro e x11 ⟨rfl, h1⟩
  replace hs9 := hs9.pure h1
  replace hs10 := hs10.pure h1
  replace hp := hp.pure h1
  replace hj := hj.pure h1
  replace hpn := hpn.pure h1
  replace hgw := gr_trans hgw h1
  clear h1
  go_wp2_with fail
  refine (farmFault_any _ _ _ _ _ _ _ hp hj).mono ?_
  rintro e x12 ⟨rfl, h1⟩
  replace hs9 := hs9.pure h1
  replace hs10 := hs10.pure h1
  replace hp := hp.pure h1
  replace hj := hj.pure h1
  replace hpn := hpn.pure h1
  replace hgw := gr_trans hgw h1
  clear h1
  by_cases hz : plannedF p j plan ch = 0
  · have hok := hF1.out hz
    have hfz := hF2.out hz
    have e1 : endsL p j plan ch = endsF p j plan ch := if_pos hz
    have e2 : endsN p j plan ch = endF p j plan ch := if_pos hz
    have e3 : lateT p j plan ch = lateS (endsF p j plan ch) j j.length := if_pos hz
    have e4 : lateM p j plan ch = lateL (endsF p j plan ch) j j.length := if_pos hz
    have e5 : boundT p j = boundF p j := if_pos hfz
    rw [e1] at hs9
    rw [e4] at hs10
    rw [hz, e1, e2, e3, e4, e5, hfz]
    clear e1 e2 e3 e4 e5 hF1 hF2 hOr hz
    replace hfz := hide hfz
    replace hok := hide hok
    go_wp2_with fail
    refine (endsBy_any _ _ _ _ _ _ _ _ _ _ _ hp hj hpn hok.out).mono ?_
    rintro e x13 ⟨g, rfl, ho13, h1⟩
    have hs13 := ho13.sl.mono (Nat.zero_le _)
    clear ho13
    replace hs9 := hs9.pure h1
    replace hs10 := hs10.pure h1
    replace hp := hp.pure h1
    replace hj := hj.pure h1
    replace hpn := hpn.pure h1
    replace hgw := gr_trans hgw h1
    clear h1
    go_wp2_with fail
    refine (lateBy_any _ _ _ _ _ _ _ _ _ _ _ hp hj hpn hok.out).mono ?_
    rintro e x14 ⟨A14, c14, rfl, hs14, h1⟩
    replace hs9 := hs9.pure h1
    replace hs10 := hs10.pure h1
    replace hs13 := hs13.pure h1
    replace hp := hp.pure h1
    replace hj := hj.pure h1
    replace hpn := hpn.pure h1
    replace hgw := gr_trans hgw h1
    clear h1
    go_wp2_with fail
    refine (boundOf_any _ _ _ _ _ _ _ hj hfz.out).mono ?_
    rintro e x15 ⟨rfl, h1⟩
    replace hs9 := hs9.pure h1
    replace hs10 := hs10.pure h1
    replace hs13 := hs13.pure h1
    replace hs14 := hs14.pure h1
    replace hp := hp.pure h1
    replace hj := hj.pure h1
    replace hpn := hpn.pure h1
    replace hgw := gr_trans hgw h1
    clear h1
    have hq := equalInts_any A9 (some ⟨g, 0, none⟩) c9 j.length _ _ x15 hs9 hs13
    rw [hEL.out] at hq
    rw [show eqB (endsF p j plan ch) (endsF p j plan ch) = true by simp [eqB]] at hq
    rw [hEL.out]
    clear hfz hok hs9 hs13 hEL
    go_wp2_with fail
    refine hq.mono ?_
    rintro e x16 ⟨rfl, h1⟩
    replace hs10 := hs10.pure h1
    replace hs14 := hs14.pure h1
    clear hq
    replace hp := hp.pure h1
    replace hj := hj.pure h1
    replace hpn := hpn.pure h1
    replace hgw := gr_trans hgw h1
    clear h1
    go_wp2_with fail
    refine (equalStrs_any _ _ _ _ (lateL (endsF p j plan ch) j j.length) (lateL (endsF p j plan ch) j j.length) x16 hs10 hs14).mono ?_
    rintro e y1 ⟨he, h1⟩
    have he : e = .returned (.bool true) := he.trans (by simp [eqT])
    subst he
    replace hgw := gr_trans hgw h1
    clear h1
    go_wp2_with fail
    refine (farmed_any _).mono ?_
    rintro e y2 ⟨rfl, h1⟩
    go_wp2_with fail
    go_ret
    exact ⟨rfl, gr_trans hgw h1⟩
  · have e1 : endsL p j plan ch = [] := if_neg hz
    have e2 : endsN p j plan ch = 0 := if_neg hz
    have e3 : lateT p j plan ch = 0 := if_neg hz
    have e4 : lateM p j plan ch = [] := if_neg hz
    rw [e1] at hs9
    rw [e4] at hs10
    rw [e1, e2, e3, e4]
    clear e1 e2 e3 e4 hF1 hF2 hOr hEL
    have hb : (plannedF p j plan ch == 0) = false := by simp [hz]
    clear hz
    by_cases hf : farmF p j = 0
    · have e5 : boundT p j = boundF p j := if_pos hf
      rw [e5, hf]
      replace hf := hide hf
      clear e5
      go_wp2_with fail
      refine (boundOf_any _ _ _ _ _ _ _ hj hf.out).mono ?_
      rintro e x15 ⟨rfl, h1⟩
      replace hs9 := hs9.pure h1
      replace hs10 := hs10.pure h1
      replace hp := hp.pure h1
      replace hj := hj.pure h1
      replace hpn := hpn.pure h1
      replace hgw := gr_trans hgw h1
      clear h1
      go_wp2_with fail
      refine (equalInts_any A9 none c9 0 [] [] x15 hs9 Sl.nil).mono ?_
      rintro e x16 ⟨he, h1⟩
      have he : e = .returned (.bool true) := he.trans (by rfl)
      subst he
      replace hs10 := hs10.pure h1
      replace hp := hp.pure h1
      replace hj := hj.pure h1
      replace hpn := hpn.pure h1
      replace hgw := gr_trans hgw h1
      clear h1
      go_wp2_with fail
      refine (equalStrs_any _ _ _ _ ([]) ([]) x16 hs10 Sl.nil).mono ?_
      rintro e y1 ⟨he, h1⟩
      have he : e = .returned (.bool true) := he.trans (by simp [eqT])
      subst he
      replace hgw := gr_trans hgw h1
      clear h1
      go_wp2_with fail
      refine (farmed_any _).mono ?_
      rintro e y2 ⟨rfl, h1⟩
      go_wp2_with fail
      go_ret
      exact ⟨rfl, gr_trans hgw h1⟩
    · have e5 : boundT p j = 0 := if_neg hf
      rw [e5]
      have hb2 : (farmF p j == 0) = false := by simp [hf]
      clear e5 hf
      go_wp2_with fail
      refine (equalInts_any A9 none c9 0 [] [] x12 hs9 Sl.nil).mono ?_
      rintro e x16 ⟨he, h1⟩
      have he : e = .returned (.bool true) := he.trans (by rfl)
      subst he
      replace hs10 := hs10.pure h1
      replace hp := hp.pure h1
      replace hj := hj.pure h1
      replace hpn := hpn.pure h1
      replace hgw := gr_trans hgw h1
      clear h1
      go_wp2_with fail
      refine (equalStrs_any _ _ _ _ ([]) ([]) x16 hs10 Sl.nil).mono ?_
      rintro e y1 ⟨he, h1⟩
      have he : e = .returned (.bool true) := he.trans (by simp [eqT])
      subst he
      replace hgw := gr_trans hgw h1
      clear h1
      go_wp2_with fail
      refine (farmed_any _).mono ?_
      rintro e y2 ⟨rfl, h1⟩
      go_wp2_with fail
      go_ret
      exact ⟨rfl, gr_trans hgw h1⟩
end Go.Proofs.YtlfobddinilmcaaDoor
