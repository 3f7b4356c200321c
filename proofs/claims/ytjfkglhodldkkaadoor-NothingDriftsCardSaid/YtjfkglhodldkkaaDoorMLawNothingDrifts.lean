/- Contracts of functions that this seat's laws reach, each: what one call returns and what it leaves in memory; no condition beyond each theorem's own hypotheses. -/
import Derived.Test.YtjfkglhodldkkaaDoorMReady
import Derived.Test.YtjfkglhodldkkaaDoorMDriftData
set_option linter.unusedVariables false
set_option linter.unusedSimpArgs false
namespace Go.Proofs.YtjfkglhodldkkaaDoor
open Go Go.RowKit Go.Bl

theorem drift_ok {l : List Bead} {area : Int} (h : checkBeads l = 0) (h6 : l.length ≤ 6) (ha : 1 ≤ area ∧ area ≤ 2405282) : DOk l area := by
  refine ⟨h6, ?_, ha⟩
  unfold checkBeads at h
  rw [if_neg (by omega)] at h
  by_cases h2 : l.all okBead = true
  · exact h2
  · rw [if_neg h2] at h; cases h

set_option maxHeartbeats 4000000 in
set_option maxRecDepth 100000 in
theorem nothingDrifts_law (A : Option Addr) (n c : Nat) (L : List Int) (w : World) (hL : Sl w 0 A L) (hn : L.length = n) :
    Calls Tryd.prog 4 #[.slice A n c] w fun e w' => e = .returned (.bool true) ∧ w.grownBy w' none := by
  have hs0 := strm_new (c := c) 25 hL hn
  have hg0 := gr_alloc (World.grownBy.refl w none) (.cells #[.slice A n c, .int .i64 0] 25)
  have hS0 := SOut.refl hs0
  go_enter Tryd.func4, Tryd.ntmps4
  go_wp2_with fail
  refine (beadList_any _ 0 _ hs0 (by omega)).mono ?_
  rintro e w1 ⟨l, A1, c1, rfl, hol, hl6, ho1⟩
  replace hS0 := hS0.trans ho1
  have hsz1 := ho1.size
  simp at hsz1
  have hsl := hol.sl.mono (show w.heap.size + 1 ≤ _ by simp)
  have hcap := hol.cap
  go_wp2_with fail
  refine (pick_any _ _ _ _ _ [1, 7, 40, 2405282] _ (hS0.2.pure (gr_alloc (World.grownBy.refl _ _) _)) (by omega) (sl_intsAt _ _ _ _ _ (by first | rfl | simp) (by omega) (by simp [maxLen])) rfl (by simp)).mono ?_
  rintro e w2 ⟨area, rfl, hmost, ho2⟩
  have hmb : 1 ≤ area ∧ area ≤ 2405282 := by simp at hmost; omega
  replace hS0 := (hS0.al _).trans ho2
  replace hsl := (hsl.pure (gr_alloc (World.grownBy.refl _ _) _)).gr ho2.1 (fun x e => by injection e; omega)
  clear ho1 ho2 hs0 hmost hol
  go_wp2_with fail
  refine (beadsFault_any _ _ l _ (hsl.mono (Nat.zero_le _))).mono ?_
  rintro e w3 ⟨rfl, h1⟩
  replace hsl := hsl.pure h1
  replace hS0 := hS0.pure h1
  clear h1
  by_cases hz : checkBeads l = 0
  · have hD := drift_ok hz hl6 hmb
    have hPA := positions_any A1 c1 l area w3 (hsl.mono (Nat.zero_le _))
    have hFA := (dok_fault hD).2.2
    rw [hFA] at hPA
    have hAM := fun w hl => amounts_any A1 c1 l area w hl
    rw [hFA] at hAM
    have hpl := pos_len hD
    have hal := am_len hD
    have hfs : Hid (fedFault l = 0) := (dok_fault hD).2.1
    rw [hz]
    clear hz hFA
    replace hD := hide hD
    go_wp2_with fail
    refine hPA.mono ?_
    rintro e w4 ⟨A4, c4, rfl, hoP, h1⟩
    have hP := hoP.sl.mono (show w.heap.size + 1 ≤ _ by have := hS0.size; simp at this; omega)
    clear hPA hoP
    replace hsl := hsl.pure h1
    replace hS0 := hS0.pure h1
    clear h1
    go_wp2_with fail
    refine (hAM _ (hsl.mono (Nat.zero_le _))).mono ?_
    rintro e w5 ⟨A5, c5, rfl, hoA, h1⟩
    have hA := hoA.sl.mono (show w.heap.size + 1 ≤ _ by have := hS0.size; simp at this; omega)
    clear hAM hoA
    replace hsl := hsl.pure h1
    replace hP := hP.pure h1
    replace hS0 := hS0.pure h1
    clear h1
    go_wp2_with fail
    refine (beadPlaces_any _ _ _ _ hS0.2 (by omega) (by omega)).mono ?_
    rintro e w6 ⟨at_, A6, c6, rfl, hoB, hbn, ho3⟩
    have hB := hoB.sl.mono (show w.heap.size + 1 ≤ _ by have := hS0.size; simp at this; omega)
    replace hsl := hsl.gr ho3.1 (fun x e => by injection e; omega)
    replace hP := hP.gr ho3.1 (fun x e => by injection e; omega)
    replace hA := hA.gr ho3.1 (fun x e => by injection e; omega)
    replace hS0 := hS0.trans ho3
    have hgw : w.grownBy w6 none := gr_new hg0 hS0.1 (Nat.le_refl _)
    clear ho3 hg0 hS0 hoB
    replace hsl := hsl.mono (Nat.zero_le _)
    replace hP := hP.mono (Nat.zero_le _)
    replace hA := hA.mono (Nat.zero_le _)
    replace hB := hB.mono (Nat.zero_le _)
    have hpb : Hid (∀ k (hk : k < (positions l area).length), 0 ≤ lastI (positions l area) k ∧ lastI (positions l area) k ≤ (positions l area)[k] ∧ (positions l area)[k] ≤ 4000000000000000) := fun k hk => pos_step hD.out hk
    have hps : Hid (∀ k (hk : k < (positions l area).length), lastI (positions l area) (k + 1) = (positions l area)[k]) := fun k hk => lastI_succ hk
    have hpv : Hid (∀ k (hk : k < (positions l area).length), 0 ≤ vol (l.take (k + 1)) ∧ vol (l.take (k + 1)) ≤ 1500000000000000 ∧ (positions l area)[k] * area ≤ vol (l.take (k + 1)) + area ∧ 0 ≤ (positions l area)[k] * area ∧ 2 * ((positions l area)[k] * area - vol (l.take (k + 1))) ≤ area ∧ -(2 * ((positions l area)[k] * area - vol (l.take (k + 1)))) < area) := fun k hk => by
      have h1 := dok_vol (dok_take hD.out (k + 1))
      have h2 := half_div h1.1 hmb.1
      rw [← pos_at hD.out hk] at h2
      exact ⟨h1.1, h1.2, h2.1, Int.mul_nonneg h2.2.1 (by omega), h2.2.2.1, h2.2.2.2⟩
    have hab : Hid (∀ k (hk : k < (amounts l area).length) (hk2 : k < (positions l area).length), (amounts l area)[k] = (positions l area)[k] - lastI (positions l area) k ∧ 0 ≤ (amounts l area)[k] ∧ (amounts l area)[k] ≤ 4000000000000000) := fun k hk hk2 => am_at hD.out hk hk2
    have hvk : Hid (∀ k, fedFault (l.take k) = 0 ∧ volumeOf (l.take k) = vol (l.take k)) := fun k => ⟨(dok_fault (dok_take hD.out k)).2.1, dok_volume (dok_take hD.out k)⟩
    have hRe : Hid (retrFault l area 800 at_ = backF l.length 800 at_ ∧ (backF l.length 800 at_ = 0 → retracted l area 800 at_ = retrTo (amounts l area) at_ 800 (amounts l area).length)) := ⟨by unfold retrFault; rw [orS_zero (dok_fault hD.out).2.2], fun h => by unfold retracted; rw [if_neg]; unfold retrFault; rw [orS_zero (dok_fault hD.out).2.2]; simp [h]⟩
    have hRT := fun w hl hB => retracted_any A1 c1 l area 800 A6 c6 at_ w hl (by omega) hB
    rw [hRe.out.1] at hRT
    have hsu : Hid (((amounts l area).take (amounts l area).length).sum = lastI (positions l area) (amounts l area).length) := am_sum hD.out _ (Nat.le_refl _)
    generalize retracted l area 800 at_ = R at *
    generalize positions l area = P at *
    generalize amounts l area = M at *
    clear hD
    go_wp2_with fail
    go_loopw [11, 70] (fun s i wr => ∃ k : Nat, k ≤ l.length ∧ s = .int .i64 (lastI P k) ∧ i = .int .i64 k ∧ w6.grownBy wr none) (fun _ i _ => l.length - (intOf i).toNat)
    case atStart => exact ⟨0, Nat.zero_le _, by simp [lastI], rfl, World.grownBy.refl _ _⟩
    case round =>
      obtain ⟨k, hk, rfl, rfl, hg⟩ := hrel
      by_cases hlt : k < l.length
      · have hltP : k < P.length := by omega
        have hltM : k < M.length := by omega
        obtain ⟨gp, op, cx, rfl, _, _, rfl, hc⟩ := (hP.pure hg).at_ (by decide) hltP
        have f0 : _ := hc 0 _ rfl
        rw [show Enc.sz Int = 1 from rfl, Nat.mul_one, Nat.add_zero] at f0
        clear hc
        obtain ⟨gm, om, cx, rfl, _, _, rfl, hc⟩ := (hA.pure hg).at_ (by decide) hltM
        have f1 : _ := hc 0 _ rfl
        rw [show Enc.sz Int = 1 from rfl, Nat.mul_one, Nat.add_zero, (hab.out k hltM hltP).1] at f1
        clear hc
        have f2 := hpb.out k hltP
        have f3 := hab.out k hltM hltP
        rw [f3.1] at f3
        have f4 := hpv.out k hltP
        have f5 := hps.out k hltP
        obtain ⟨f6, f7⟩ := hvk.out (k + 1)
        have hsk := ((hsl.pure hg).take (k + 1))
        have hlk : (l.take (k + 1)).length = k + 1 := by rw [List.length_take]; omega
        have hV := fun wx hx => volumeGo_any A1 c1 (l.take (k + 1)) wx hx
        rw [f6, f7, hlk] at hV
        generalize vol (l.take (k + 1)) = V at *
        generalize P[k] = pk at *
        generalize lastI P k = lk at *
        obtain ⟨d, rfl⟩ : ∃ d, pk = lk + d := ⟨pk - lk, by omega⟩
        rw [show lk + d - lk = d by omega] at f1 f3
        replace f3 := f3.2
        have f8 : ∀ s, s = (lk + d) * area → -9223372036854775808 ≤ s ∧ s ≤ 9223372036854775807 ∧ -9223372036854775808 ≤ s - V ∧ s - V ≤ 9223372036854775807 ∧ -9223372036854775808 ≤ 2 * (s - V) ∧ 2 * (s - V) ≤ 9223372036854775807 := by rintro s rfl; omega
        generalize hs : (lk + d) * area = s at *
        replace f8 := f8 s rfl
        go_wp2_with fail
        refine (hV _ hsk).mono ?_
        rintro e w7 ⟨rfl, h1⟩
        replace f1 := h1.k f1
        replace hg := gr_trans hg h1
        clear h1 hV hsk
        have g1 : decide (2 * (s - V) > area) = false := by simp; omega
        have g2 : decide (-(2 * (s - V)) ≥ area) = false := by simp; omega
        have g3 : decide (d < 0) = false := by simp; omega
        go_wp2_with fail
        (go_roundw; (case rel => exact ⟨k + 1, by omega, by rw [f5], by go_num, hg⟩); (case measure => simp [intOf]; omega))
      · have hkk : k = l.length := by omega
        have hsu2 : (M.take M.length).sum = lastI P k := by rw [hsu.out, hal, hkk]
        have hsb := sum_bd (l := M) (B := 4000000000000000) (by omega) (fun x hx => by
          obtain ⟨j, hj, rfl⟩ := List.getElem_of_mem hx
          have := hab.out j hj (by omega)
          omega) M.length (Nat.le_refl _)
        rw [hsu2] at hsb
        generalize lastI P k = T at *
        have hBF := backFault_any A1 c1 l 800 A6 c6 at_ wr (hB.pure hg) (by omega)
        by_cases hz : backF l.length 800 at_ = 0
        · have hR := hRe.out.2 hz
          rw [hz] at hBF hRT
          have hRl : R.length = l.length + 2 * at_.length := by rw [hR, retr_len (by rw [hal]; exact hz), hal]
          have hRs : (R.take R.length).sum = T := by
            rw [List.take_length, hR, retr_sum _ _ _ _ (Nat.le_refl _), hsu2]
          have hRb : Hid (∀ j, j ≤ R.length → -(4000000000000000 * (j : Int)) ≤ (R.take j).sum ∧ (R.take j).sum ≤ 4000000000000000 * (j : Int)) := sum_bd (by omega) (by
            rw [hR]
            exact retr_bd (by omega) (fun x hx => by
              obtain ⟨j, hj, rfl⟩ := List.getElem_of_mem hx
              have := hab.out j hj (by omega)
              omega) _ (Nat.le_refl _))
          have hRe2 : Hid (∀ j (hj : j < R.length), -4000000000000000 ≤ R[j] ∧ R[j] ≤ 4000000000000000 ∧ (R.take (j + 1)).sum = (R.take j).sum + R[j]) := fun j hj => by
            have h1 : ∀ x ∈ R, -4000000000000000 ≤ x ∧ x ≤ 4000000000000000 := by
              rw [hR]
              exact retr_bd (by omega) (fun x hx => by
                obtain ⟨j, hj, rfl⟩ := List.getElem_of_mem hx
                have := hab.out j hj (by omega)
                omega) _ (Nat.le_refl _)
            have h2 := h1 _ (List.getElem_mem hj)
            exact ⟨h2.1, h2.2, sum_snoc hj⟩
          clear hR hz hRe hsu hsu2 hab hpb hps hpv hvk
          go_wp2_with fail
          refine hBF.mono ?_
          rintro e w7 ⟨rfl, rfl⟩
          go_wp2_with fail
          refine (hRT _ (hsl.pure hg) (hB.pure hg)).mono ?_
          rintro e w8 ⟨A8, c8, rfl, hoR, h1⟩
          have hRw := hoR.sl
          replace hg := gr_trans hg h1
          clear h1 hoR hRT hBF
          go_wp2_with fail
          go_loopw [11, 148] (fun s i wr => ∃ k : Nat, k ≤ R.length ∧ s = .int .i64 (T - (R.take k).sum) ∧ i = .int .i64 k ∧ w8.grownBy wr none) (fun _ i _ => R.length - (intOf i).toNat)
          case atStart => exact ⟨0, Nat.zero_le _, by simp, rfl, World.grownBy.refl _ _⟩
          case round =>
            obtain ⟨j, hj, rfl, rfl, hgj⟩ := hrel
            by_cases hltj : j < R.length
            · obtain ⟨gr, or, cx, rfl, _, _, rfl, hc⟩ := (hRw.pure hgj).at_ (by decide) hltj
              have f0 : _ := hc 0 _ rfl
              rw [show Enc.sz Int = 1 from rfl, Nat.mul_one, Nat.add_zero] at f0
              clear hc
              have b1 := hRb.out j hj
              obtain ⟨b2, b3, b4⟩ := hRe2.out j hltj
              generalize R[j] = r at *
              generalize (R.take j).sum = S at *
              go_wp2_with fail
              (go_roundw; (case rel => exact ⟨j + 1, by omega, by rw [b4]; congr 1; omega, by go_num, hgj⟩); (case measure => simp [intOf]; omega))
            · have hjj : j = R.length := by omega
              have hz0 : T - (R.take j).sum = 0 := by rw [hjj, hRs]; omega
              rw [hz0]
              go_wp2_with fail
              refine (ready_any _).mono ?_
              rintro e w9 ⟨rfl, h1⟩
              go_wp2_with fail
              go_ret
              exact ⟨rfl, gr_trans hgw (gr_trans hg (gr_trans hgj h1))⟩
        · have hb : (backF l.length 800 at_ != 0) = true := by simp [hz]
          generalize backF l.length 800 at_ = F at *
          clear hz
          go_wp2_with fail
          refine hBF.mono ?_
          rintro e w7 ⟨rfl, rfl⟩
          go_wp2_with fail
          refine (ready_any _).mono ?_
          rintro e w4 ⟨rfl, h1⟩
          go_wp2_with fail
          go_ret
          exact ⟨rfl, gr_trans hgw (gr_trans hg h1)⟩
  · have hb : (checkBeads l != 0) = true := by simp [hz]
    generalize checkBeads l = F at *
    clear hz
    have hgw : w.grownBy w3 none := gr_new hg0 hS0.1 (Nat.le_refl _)
    go_wp2_with fail
    refine (ready_any _).mono ?_
    rintro e w4 ⟨rfl, h1⟩
    go_wp2_with fail
    go_ret
    exact ⟨rfl, gr_trans hgw h1⟩

end Go.Proofs.YtjfkglhodldkkaaDoor
