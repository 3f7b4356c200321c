/- Contracts of functions that this seat's laws reach, each: what one call returns and what it leaves in memory; no condition beyond each theorem's own hypotheses. -/
import Derived.Test.YtanioobepfllgaaGreatDoorZqReady
import Derived.Test.YtanioobepfllgaaGreatDoorZqLateG
import Derived.Test.YtanioobepfllgaaGreatDoorZqGreA
import Derived.Test.YtanioobepfllgaaGreatDoorZqFsA
import Derived.Test.YtanioobepfllgaaGreatDoorZqEvR
import Derived.Test.YtanioobepfllgaaGreatDoorZqFlrK
set_option linter.unusedVariables false
set_option linter.unusedSimpArgs false
namespace Go.Proofs.YtanioobepfllgaaGreatDoor
open Go Go.RowKit Go.Bl Go.Maps Go.WideShapes

theorem ends_plF {p : List Prn} {j : List Jb} {ch : Int} {Q : List (List Int)} (hF : farmF p j = 0) (hc : spanF ch 0 100000 = 0) (h : IsPl p.length j.length Q) : plannedF p j Q ch = 0 := by
  have h1 := (isPl_plan (p := p) hF).2 h
  unfold plannedF
  rw [if_pos h1]
  exact hc

theorem rows_few {n m : Nat} {Q : List (List Int)} (h : IsPl m n Q) {k : Nat} (hk : k < Q.length) : Q[k].length ≤ n := Nat.le_trans (row_len hk) (few_rows h.isp)

set_option maxHeartbeats 8000000 in
set_option maxRecDepth 100000 in
theorem farmsStay_law (A : Option Addr) (n c : Nat) (L : List Int) (w : World) (hL : Sl w 0 A L) (hn : L.length = n) :
    Calls Tryz.prog 4 #[.slice A n c] w fun e w' => e = .returned (.bool true) ∧ w.grownBy w' none := by
  have hs0 := strm_new (c := c) 25 hL hn
  have hg0 := gr_alloc (World.grownBy.refl w none) (.cells #[.slice A n c, .int .i64 0] 25)
  have hS0 := SOut.refl hs0
  go_enter Tryz.func4, Tryz.ntmps4
  go_wp2_with fail
  refine (rightPrinters_any _ 0 2 _ hs0 (by omega) (by omega)).mono ?_
  rintro e w1 ⟨p, A1, c1, rfl, hp, hp3, hpc, hpF, ho1⟩
  replace hS0 := hS0.trans ho1
  go_wp2_with fail
  refine (rightJobs_any _ _ 4 _ hS0.2 (by omega) (by omega)).mono ?_
  rintro e w2 ⟨j, A2, c2, rfl, hj, hj5, -, hjF, ho2⟩
  replace hS0 := hS0.trans ho2
  replace hp := hp.gr ho2.1 (fun x e => by injection e; omega)
  have hgw : w.grownBy w2 none := gr_new hg0 hS0.1 (Nat.le_refl _)
  have hst := hS0.2
  have hbw := hst.lt
  have hc : Hid (spanF 5 0 100000 = 0) := by rw [Hid]; decide
  have hF : Hid (farmF p j = 0) := by rw [Hid]; unfold farmF; rw [if_pos hpF]; exact hjF
  clear hpF hjF ho1 ho2 hpc hS0 hs0 hg0
  go_wp2_with fail
  refine (clonePrn_any A1 c1 p w2 (hp.mono (Nat.zero_le _)) (by omega)).mono ?_
  rintro e w3 ⟨B1, e1, rfl, hq, hg3⟩
  replace hq := (hq.lower (lo' := w.heap.size + 1) (by omega)).sl
  replace hp := hp.pure hg3
  replace hj := hj.pure hg3
  replace hst := hst.pure hg3
  replace hgw := hgw.t hg3
  have hsz3 := hg3.size
  clear hg3
  go_wp2_with fail
  refine (cloneJb_any A2 c2 j w3 (hj.mono (Nat.zero_le _)) (by omega)).mono ?_
  rintro e w4 ⟨B2, e2, rfl, hk, hg4⟩
  replace hk := (hk.lower (lo' := w.heap.size + 1) (by omega)).sl
  replace hp := hp.pure hg4
  replace hj := hj.pure hg4
  replace hq := hq.pure hg4
  replace hst := hst.pure hg4
  replace hgw := hgw.t hg4
  have hsz4 := hg4.size
  clear hg4
  have hE := hide (earliest_any A1 c1 p A2 c2 j 5 w4 (hp.mono (Nat.zero_le _)) (hj.mono (Nat.zero_le _)) hF.out hc.out (by omega) (by omega))
  go_wp2_with fail
  refine hE.out.mono ?_
  rintro e w5 ⟨B, d, rB, R, rfl, hbest, hRd, hRB, hg5⟩
  have hPlR := hbest.1
  clear hE hbest
  have hG := hide (greedy_any A1 c1 p A2 c2 j 5 w5 ((hp.pure hg5).mono (Nat.zero_le _)) ((hj.pure hg5).mono (Nat.zero_le _)) hF.out hc.out)
  generalize lstP p j 5 R = VN at *
  go_wp2_with fail
  refine hG.out.mono ?_
  rintro e w6 ⟨BG, dG, rG, G, rfl, hGe, hGd, hGB, hg6⟩
  have hPlG : IsPl p.length j.length G := by rw [hGe]; exact greP_isPl (farm_plen hF.out).1
  have hp0 := (farm_plen hF.out).1
  generalize lstP p j 5 G = VM at *
  clear hG hGe
  replace hRB := hRB.pure hg6
  have hg46 := hg5.t hg6
  have hsz45 := hg5.size
  have hRl := hPlR.len
  have hGl := hPlG.len
  have hb1 : ((R.length : Int) != (p.length : Int)) = false := by rw [hRl]; simp
  have hR5 : R.length ≤ 4 := by omega
  replace hRl := hide hRl
  replace hGl := hide hGl
  have hR := hRB.sl.mono (Nat.zero_le _)
  clear hg5 hg6
  go_wp2_with fail
  go_loopw [14, 65] (fun t i wr => ∃ (k : Nat) (A : Option Addr) (cc : Nat) (raws : List RawS), k ≤ R.length ∧ i = .int .i64 k ∧ t = .slice A k cc ∧ Hid (raws.length = k) ∧ RowsN wr w6.heap.size w6.heap.size 22 3 A cc raws (R.take k) ∧ w6.grownBy wr none) (fun _ i _ => R.length - (intOf i).toNat)
  case atStart => exact ⟨0, none, 0, [], Nat.zero_le _, rfl, rfl, rfl, RowsN.nil _ _ _ (by decide) (Nat.le_refl _), World.grownBy.refl _ _⟩
  case round =>
    obtain ⟨k, A, cc, raws, hk4, rfl, rfl, hrl, hRw, hg⟩ := hrel
    by_cases hlt : k < R.length
    · obtain ⟨g, o, Bk, dk, rfl, hb1', c0, hsl⟩ := sl_inner hR hlt
      replace c0 := hg.k c0
      have hq5 := rows_few hPlR hlt
      have htk : Hid (R.take (k + 1) = R.take k ++ [R[k]]) := List.take_succ_eq_append_getElem hlt
      have hCl := hide (cloneInt_any Bk dk R[k] wr (hsl.pure hg) (by omega))
      generalize R[k] = q at *
      go_wp2_with fail
      refine hCl.out.mono ?_
      rintro e w7 ⟨A7, c7, rfl, hO7, hg7⟩
      obtain ⟨i0, hi, hz, hi1, hi2⟩ := info_parts info_intsR
      have hR7 := (hRw.pure hg7).pure (gr_alloc (World.grownBy.refl w7 none) (.cells #[.slice A7 q.length c7] 22))
      have hO7' := hO7.pure (gr_alloc (World.grownBy.refl w7 none) (.cells #[.slice A7 q.length c7] 22))
      have hsz := hg.size
      have hsz7 := hg7.size
      go_wp2_with (at_builtin; refine wpList_pushAt (α := RawS) _ rfl (.tmp 69) (.tmp 72) _ rfl w6.heap.size 22 i0 _ 24 Tryz.underlying31 hi hz hi1 hi2 rfl _ _ _ raws rfl hrl.out.symm (by exact hR7.out) 0 ⟨_, 0, none⟩ 1 1 [(⟨A7, q.length, c7⟩ : RawS)] rfl rfl (by exact sl_oneAt _ 0 _ _ _ _ (by first | rfl | simp) (Nat.zero_le _) rfl) ?c2 ?c3 ?c4 ?_)
      case c2 => rw [hrl.out]; simp; omega
      case c3 => rw [hrl.out]; simp [maxLen]; omega
      case c4 => simp; omega
      intro A8 c8 w8 hO8 hG8
      have hR8 := hR7.pushR (hO7'.lower (by omega)) (fun g e i hi e2 => by
        have h1 := (hO7.blk_lt e).1
        have h2 := (hRw.blkR hi e2).2
        omega) hO8 hG8
      have hg8 : w6.grownBy w8 none := gr_row ((hg.t hg7).t (gr_alloc (World.grownBy.refl w7 none) (.cells #[.slice A7 q.length c7] 22))) hG8.1 (fun x e => (hR7.out.blk_lt e).1)
      have hrl2 : Hid ((raws ++ [(⟨A7, q.length, c7⟩ : RawS)]).length = k + 1) := by rw [Hid, List.length_append, hrl.out]; rfl
      rw [hrl.out]
      clear hR7 hO7' hO8 hG8
      go_wp2
      (go_roundw; (case rel => exact ⟨k + 1, A8, c8, _, by omega, by go_num, rfl, hrl2, by rw [htk.out]; exact hR8, hg8⟩); (case measure => simp [intOf]; omega))
    · obtain rfl : k = R.length := by omega
      rw [List.take_length] at hRw
      have h4q := hg46.t hg
      have hPl := hRw.sl.mono (Nat.zero_le _)
      have hRBq := hRB.pure hg
      have hGBq := hGB.pure hg
      have hRq := hR.pure hg
      have hEn := hide (endsOwn_any A1 c1 p A2 c2 j B d R 5 wr ((hp.pure h4q).mono (Nat.zero_le _)) ((hj.pure h4q).mono (Nat.zero_le _)) hRq (ends_plF hF.out hc.out hPlR))
      have hel := endsF_len p j R 5
      generalize endsF p j R 5 = EL at *
      generalize endF p j R 5 = EN at *
      have hrBl : Hid (rB.length = R.length) := hRBq.len
      have hrGl : Hid (rG.length = G.length) := hGBq.len
      have hbnd : Hid ((∀ k (h : k < R.length), R[k].length ≤ 5) ∧ ∀ k (h : k < G.length), G[k].length ≤ 5) := ⟨fun k h => Nat.le_trans (rows_few hPlR h) hj5, fun k h => Nat.le_trans (rows_few hPlG h) hj5⟩
      clear hRB hGB hR hRw hrl hg hg46 hPlR hPlG hF hc
      replace hel := hide hel
      rename World => wq
      go_wp2_with fail
      refine hEn.out.mono ?_
      rintro e w8 ⟨gE, rfl, hOE, hg8⟩
      have hEq := hide (sameRows_any B d R A cc w8 (hRq.pure hg8) (hPl.pure hg8))
      clear hEn
      go_wp2_with fail
      refine hEq.out.mono ?_
      rintro e w9 ⟨rfl, hg9⟩
      clear hEq hPl hRq
      have hSp := hide (spoilInts_any (some ⟨gE, 0, none⟩) j.length j.length wq.heap.size EL w9 (hOE.pure hg9) hel.out)
      go_wp2_with fail
      refine hSp.out.mono ?_
      rintro e w10 ⟨rfl, hg10⟩
      have hq10 : wq.grownBy w10 none := gr_row (hg8.t hg9) hg10 (fun x e => (hOE.blk_lt e).1)
      have h410 := h4q.t hq10
      replace hRBq := hRBq.pure hq10
      replace hGBq := hGBq.pure hq10
      clear hSp hg8 hg9 hg10 hOE hq10 h4q
      have hCr := hide (cloneRows_any B d rB w10 (hRBq.out.sl.mono (Nat.zero_le _)) (by rw [hrBl.out]; omega))
      rw [hrBl.out] at hCr
      obtain ⟨gG, rfl, -, -⟩ := hGBq.out.shape (by rw [hrGl.out, hGl.out]; omega)
      have hG4 : G.length ≤ 3 := by rw [hGl.out]; omega
      go_wp2_with fail
      refine hCr.out.mono ?_
      rintro e w11 ⟨A11, c11, rfl, hO11, hg11⟩
      clear hCr
      obtain ⟨i0, hi, hz, hi1, hi2⟩ := info_parts info_intsR
      have hsG := (hGBq.pure hg11).out.sl
      go_wp2_with (at_builtin; refine wpList_pushAt (α := RawS) _ rfl (.tmp 94) (.tmp 95) _ rfl w10.heap.size 22 i0 _ 24 Tryz.underlying31 hi hz hi1 hi2 rfl _ _ _ rB rfl hrBl.out.symm (by exact hO11) _ ⟨gG, 0, none⟩ _ _ rG rfl hrGl.out.symm (by exact hsG) ?c2 ?c3 ?c4 ?_)
      case c2 => rw [hrBl.out, hrGl.out]; omega
      case c3 => rw [hrBl.out, hrGl.out]; unfold maxLen; omega
      case c4 => exact hg11.size
      intro A12 c12 w12 hO12 hG12
      have h1012 : w10.grownBy w12 none := gr_row hg11 hG12.1 (fun x e => (hO11.blk_lt e).1)
      have h412 := h410.t h1012
      have hOut := hO12.sl
      have hlen : Hid ((rB ++ rG).length = R.length + G.length) := by rw [Hid, List.length_append, hrBl.out, hrGl.out]
      have hsz5 := hg11.size
      have hsp : Hid (∀ k (h : k < (rB ++ rG).length), SpV IsI 1 w12 w4.heap.size w10.heap.size (rB ++ rG)[k].A (rB ++ rG)[k].n ∧ (rB ++ rG)[k].n ≤ 1000000) := fun k h => by
        by_cases hk1 : k < rB.length
        · rw [List.getElem_append_left hk1]
          have hk2 : k < R.length := by rw [← hrBl.out]; exact hk1
          have hb := hbnd.out.1 k hk2
          rw [(hRBq.ins k hk1 hk2).1]
          have h1 := (RowsN.spv hRBq hk1).pure h1012
          rw [(hRBq.ins k hk1 hk2).1] at h1
          exact ⟨h1, by omega⟩
        · rw [List.getElem_append_right (by omega)]
          rw [List.length_append] at h
          have hk1' : k - rB.length < rG.length := by omega
          have hk2 : k - rB.length < G.length := by rw [← hrGl.out]; exact hk1'
          have hb := hbnd.out.2 _ hk2
          have h1 := ((RowsN.spv hGBq hk1').pure h1012).mono hsz45 (Nat.le_refl _)
          rw [(hGBq.ins _ hk1' hk2).1] at h1 ⊢
          exact ⟨h1, by omega⟩
      clear hRBq hGBq hO11 hO12 hG12 hg11 hsG hi hz hi1 hi2 h410 h1012 hbnd
      have hln2 : rB.length + rG.length = R.length + G.length := by rw [hrBl.out, hrGl.out]
      generalize rB ++ rG = rr at *
      first
      | rw [hln2]
      | rw [hlen.out]
      | skip
      clear hln2
      go_wp2
      go_loopw [98] (fun i wr => ∃ k : Nat, k ≤ R.length + G.length ∧ i = .int .i64 k ∧ SpI2 w4.heap.size w10.heap.size w12 wr) (fun i _ => R.length + G.length - (intOf i).toNat)
      case atStart => exact ⟨0, Nat.zero_le _, rfl, SpI2.refl _ _ _⟩
      case round =>
        obtain ⟨k, hk9, rfl, hI⟩ := hrel
        by_cases hlt : k < R.length + G.length
        · have hkr : k < rr.length := by rw [hlen.out]; exact hlt
          obtain ⟨g, o, cx, rfl, _, hb1', hcr, hcx⟩ := (hI.sl hOut (Nat.le_refl _)).at_ (by decide) hkr
          have hcr' : cx = [.slice rr[k].A rr[k].n rr[k].c] := hcr
          subst hcr'
          have c0 : wr.cell? ⟨g, o + k, none⟩ = some (.slice rr[k].A rr[k].n rr[k].c) := by
            have := hcx 0 _ rfl
            rwa [show Enc.sz RawS = 1 from rfl, Nat.mul_one, Nat.add_zero] at this
          obtain ⟨h1, h2⟩ := hsp.out k hkr
          have hV := hide (spoilV_any rr[k].A rr[k].n rr[k].c _ _ wr (hI.sp _ _ _ _ h1) h2)
          clear hcx h1
          generalize rr[k] = rk at *
          go_wp2_with fail
          refine hV.out.mono ?_
          rintro e w13 ⟨rfl, h13⟩
          go_wp2_with fail
          (go_roundw; (case rel => exact ⟨k + 1, by omega, by go_num, hI.trans h13⟩); (case measure => simp [intOf]; omega))
        · have h4z := hI.new h412 (Nat.le_refl _)
          replace hp := hp.pure h4z
          replace hj := hj.pure h4z
          replace hq := hq.pure h4z
          replace hk := hk.pure h4z
          replace hst := hst.pure h4z
          replace hgw := hgw.t h4z
          clear hI h412 h4z hOut hsp
          have hEv := hide (rightEv2_any _ _ wr hst (by omega))
          go_wp2_with fail
          refine hEv.out.mono ?_
          rintro e w14 ⟨ev, P, AE, cE, rfl, hl, hl16, hlc, hF0, hpl, ho14⟩
          replace hp := (hp.gr ho14.1 (fun x e => by injection e; omega)).mono (Nat.zero_le _)
          replace hj := (hj.gr ho14.1 (fun x e => by injection e; omega)).mono (Nat.zero_le _)
          replace hq := (hq.gr ho14.1 (fun x e => by injection e; omega)).mono (Nat.zero_le _)
          replace hk := (hk.gr ho14.1 (fun x e => by injection e; omega)).mono (Nat.zero_le _)
          replace hgw : w.grownBy w14 none := gr_new hgw ho14.1 (Nat.le_refl _)
          replace hl := hl.mono (Nat.zero_le _)
          replace hpl := hpl.mono (Nat.zero_le _)
          clear hEv ho14 hst
          have hevs := ersF_zero evQ_key hF0
          have hev := hide (evsF_zero hevs).2
          have hchk : Hid (chkF evQ ev = 0) := by
            rw [Hid]
            unfold chkF
            rw [if_neg (by rw [evQ_ok]; decide)]
            exact hF0
          have hqk : Hid (∀ x ∈ evQ, okK x.key) := fun x hx => Nat.le_trans (keyB_okK (evQ_key x hx)) (by unfold maxLen; omega)
          clear hevs hF0
          go_wp2_with fail
          refine (cloneEv_any AE cE ev w14 hl (by omega)).mono ?_
          rintro e w15 ⟨BE, dE, rfl, hOe, hg15⟩
          have hle := (hOe.sl).mono (Nat.zero_le _)
          have hRf := hide (refused_any P AE 2 cE evQ ev w15 (hpl.pure hg15) hqk.out (by decide) (by omega) hev.out (hl.pure hg15) hchk.out)
          go_wp2_with fail
          refine hRf.out.mono ?_
          rintro e w16 ⟨X1, x1, X2, x2, rfl, -, -, hg16⟩
          have h1416 := hg15.t hg16
          have hS1 := hide fun W (h : w16.grownBy W none) => sameEv_any AE cE ev BE dE W (hl.pure (h1416.t h)) (hle.pure (hg16.t h))
          have hS2 := hide fun W (h : w16.grownBy W none) => samePrn_any A1 c1 p B1 e1 W (hp.pure (h1416.t h)) (hq.pure (h1416.t h))
          have hS3 := hide fun W (h : w16.grownBy W none) => sameJb_any A2 c2 j B2 e2 W (hj.pure (h1416.t h)) (hk.pure (h1416.t h))
          replace hgw := hgw.t h1416
          clear hRf hg15 hg16 h1416 hl hle hp hj hq hk hOe
          go_wp2_with fail
          refine (hS1.out w16 (World.grownBy.refl _ _)).mono ?_
          rintro e w17 ⟨rfl, hg17⟩
          go_wp2_with fail
          refine (hS2.out w17 hg17).mono ?_
          rintro e w18 ⟨rfl, hg18⟩
          go_wp2_with fail
          refine (hS3.out w18 (hg17.t hg18)).mono ?_
          rintro e w19 ⟨rfl, hg19⟩
          go_wp2_with fail
          refine (ready_any _).mono ?_
          rintro e wz ⟨rfl, hgz⟩
          go_wp2_with fail
          go_ret
          exact ⟨rfl, hgw.t (hg17.t (hg18.t (hg19.t hgz)))⟩

end Go.Proofs.YtanioobepfllgaaGreatDoor
