/- Contracts of functions that this seat's laws reach, each: what one call returns and what it leaves in memory; no condition beyond each theorem's own hypotheses. -/
import Derived.Test.YtpdhbhlnopmifaaGreatDoorZqFitP
import Derived.Test.YtpdhbhlnopmifaaGreatDoorZqFitN
import Derived.Test.YtpdhbhlnopmifaaGreatDoorZqSpoolB
import Derived.Test.YtpdhbhlnopmifaaGreatDoorZqReady
set_option linter.unusedVariables false
set_option linter.unusedSimpArgs false
namespace Go.Proofs.YtpdhbhlnopmifaaGreatDoor
open Go Go.RowKit Go.Bl Go.Maps Go.WideShapes

def plaB : ByteArray := ⟨#[112, 108, 97]⟩

theorem plaB_key : keyB plaB = true := by decide +kernel

theorem plaB_list : plaB.toList = [112, 108, 97] := by rw [Lib.toList_data]; rfl

theorem mat_eq {a : ByteArray} (h : a = plaB) : (a.toList == [112, 108, 97]) = true := by rw [h, plaB_list]; rfl

theorem mat_ne {a : ByteArray} (h : a ≠ plaB) : (a.toList == [112, 108, 97]) = false := by
  rw [← plaB_list]
  rw [beq_eq_false_iff_ne]; intro e; rw [Lib.toList_data, Lib.toList_data] at e
  exact h (by cases hf : a; cases hq : plaB; rw [hf, hq] at e; simp only [ByteArray.mk.injEq]; exact Array.toList_inj.1 e)

set_option maxHeartbeats 8000000 in
set_option maxRecDepth 100000 in
theorem fitted_law (A0 : Option Addr) (n c : Nat) (L : List Int) (w : World) (hL : Sl w 0 A0 L) (hn : L.length = n) :
    Calls Tryz.prog 4 #[.slice A0 n c] w fun e w' => e = .returned (.bool true) ∧ w.grownBy w' none := by
  have hs0 := strm_new (c := c) 25 hL hn
  have hg0 := gr_alloc (World.grownBy.refl w none) (.cells #[.slice A0 n c, .int .i64 0] 25)
  have hS0 := SOut.refl hs0
  go_enter Tryz.func4, Tryz.ntmps4
  go_wp2_with fail
  refine (spoolList_any _ 0 _ hs0 (by omega)).mono ?_
  rintro e w1 ⟨s, P, pc, rfl, hs, hs5, hpc, ho1⟩
  replace hS0 := hS0.trans ho1
  go_wp2_with fail
  refine (needList_any _ _ _ hS0.2 (by omega)).mono ?_
  rintro e w2 ⟨nd, AN, cN, rfl, hnO, hn9, ho2⟩
  replace hS0 := hS0.trans ho2
  replace hs := hs.s ho2 (by simp)
  go_wp2_with fail
  refine (range_any w.heap.size _ 0 200 _ hS0.2 (by omega) (by omega) (by omega) (by omega)).mono ?_
  rintro e w3 ⟨need, rfl, hneed, ho3⟩
  replace hS0 := hS0.trans ho3
  replace hs := (hs.s ho3 (by simp)).mono (Nat.zero_le _)
  have hAN : Hid (∀ g, blk AN = some g → g < w3.heap.size) := fun g e => by have h1 := (hnO.blk_lt e).2; have := ho3.size; omega
  have hnd := ((hnO.s ho3 (by simp)).sl).mono (Nat.zero_le _)
  have hgw : w.grownBy w3 none := gr_new hg0 hS0.1 (Nat.le_refl _)
  have hSF := spoolsFault_any P pc s w3 hs
  clear ho1 ho2 ho3 hs0 hg0 hL hS0 hnO
  by_cases hF : splsF s = 0
  · rw [hF] at hSF
    replace hSF := hide hSF
    have hNF := hide fun wx (h : w3.grownBy wx none) => needsFault_any AN cN nd wx (hnd.pure h) (by omega)
    by_cases hF2 : ndsF nd = 0
    · rw [hF2] at hNF
      obtain ⟨h8, hnb⟩ := ndsF_zero hF2
      have hFt := hide fun wx (h : w3.grownBy wx none) => fitsTop_any P AN pc cN s plaB nd wx (hs.pure h) hF plaB_key (hnd.pure h) h8 hnb (fun g e => Nat.lt_of_lt_of_le (hAN.out g e) h.size)
      have hCt := hide fun wx (h : w3.grownBy wx none) => changes_any P pc s plaB need wx (hs.pure h) hF plaB_key (by omega)
      replace hnb := hide hnb
      replace hF := hide hF
      replace hs := hide hs
      replace hnd := hide hnd
      have hpb := hide (plaL_bd (m := plaB) hF.out)
      clear hF2 hAN
      go_wp2_with fail
      refine hSF.out.mono ?_
      rintro e w4 ⟨rfl, hg4⟩
      go_wp2_with fail
      refine (hNF.out w4 hg4).mono ?_
      rintro e w5 ⟨rfl, hg5⟩
      replace hg5 := hg4.t hg5
      clear hSF hNF hg4
      go_wp2_with fail
      refine (hFt.out w5 hg5).mono ?_
      rintro e w6 ⟨out, AF, cF, V, rfl, hl6, hV1, hV2, hg6⟩
      replace hg6 := hg5.t hg6
      replace hV1 := hide hV1
      replace hV2 := hide hV2
      have hVl : Hid (V = true → out.length = nd.length) := fun h => by
        obtain ⟨l', hp⟩ := hV1.out h
        exact hp.len.1
      clear hFt hg5
      go_wp2_with fail
      refine (hCt.out w6 hg6).mono ?_
      rintro e w7 ⟨cks, AC, cC, W, rfl, hl7, hCk, hg7⟩
      replace hl6 := hl6.pure hg7
      replace hg7 := hg6.t hg7
      replace hCk := hide hCk
      clear hCt hg6
      go_upto_region 7 with fail
      go_cut [71] (fun t wx => t = .bool false ∧ w7 = wx)
      case first =>
        rcases V with _ | _
        · go_wp2_with fail
          go_meet
          exact ⟨by simp, rfl⟩
        · have hle : out.length = nd.length := hVl.out rfl
          have hq : ((out.length : Int) != (nd.length : Int)) = false := by simp [hle]
          replace hle := hide hle
          go_wp2_with fail
          go_meet
          exact ⟨by simp [hle.out], rfl⟩
      case rest =>
      obtain ⟨rfl, rfl⟩ := hcut
      obtain ⟨w8, hw8⟩ : ∃ q, q = w7.alloc (.map #[] 0) := ⟨_, rfl⟩
      have m8 : MapOf strI w8 w7.heap.size 0 (fun _ => none) := by rw [hw8]; exact MapOf.made strI w7
      have g8 : w7.grownBy w8 none := by rw [hw8]; exact gr_alloc (World.grownBy.refl _ _) _
      have k1 := run_makeMap (P := Tryz.prog) 56 w7
      rw [← hw8] at k1
      have hml0 : w7.heap.size < w8.heap.size := m8.lt
      clear hw8
      obtain ⟨ml, hml⟩ : ∃ q, q = w7.heap.size := ⟨_, rfl⟩
      rw [← hml] at m8 k1 hml0
      have hml7 : w7.heap.size ≤ ml := by omega
      replace hml := hide hml
      have hpt0 : Hid (0 = (plaL (s.take 0) plaB).sum) := rfl
      go_wp2_with fail
      go_loopw [14, 75] (fun a i wr => ∃ (j : Nat) (mp : ByteArray → Option Int) (S : Int), j ≤ s.length ∧ i = .int .i64 j ∧ a = .int .i64 S ∧ Hid (S = (plaL (s.take j) plaB).sum) ∧ MapOf strI wr ml j mp ∧ Hid (MI1 s j mp) ∧ w7.grownBy wr none) (fun _ i _ => s.length - (intOf i).toNat)
      case atStart => exact ⟨0, fun _ => none, 0, Nat.zero_le _, rfl, rfl, hpt0, m8, fun i _ h => by omega, g8⟩
      case round =>
        clear m8 g8 k1
        obtain ⟨j, mp, S, hj, rfl, rfl, hS, hm, hMI, hgr⟩ := hrel
        by_cases hjs : j < s.length
        · obtain ⟨g, o, cx, rfl, -, -, rfl, hc⟩ := ((hs.out.pure (hg7.t hgr))).at_ (by decide) hjs
          have c0 : wr.cell? ⟨g, o + j * 3, none⟩ = some (.string s[j].key) := hc 0 _ rfl
          have c1 : wr.cell? ⟨g, o + j * 3 + 1, none⟩ = some (.string s[j].mat) := hc 1 _ rfl
          have c2 : wr.cell? ⟨g, o + j * 3 + 2, none⟩ = some (.int .i64 s[j].left) := hc 2 _ rfl
          clear hc
          have hok := spl_okK hF.out j hjs
          have hst := hide (plaL_take (m := plaB) hjs)
          have hMI2 := hide (hMI.out.step hF.out hjs)
          have hlv := ((splsF_zero hF.out).2 j hjs).1
          have hSb : 0 ≤ S ∧ S ≤ 5000000000 := by
            have h1 := sum_bd (l := plaL (s.take j) plaB) (M := 1000000000) (fun v hv => by
              unfold plaL at hv
              obtain ⟨x, hx, rfl⟩ := List.mem_map.1 hv
              obtain ⟨k, hk, rfl⟩ := List.getElem_of_mem (List.mem_of_mem_take (List.mem_filter.1 hx).1)
              exact ((splsF_zero hF.out).2 k hk).1) (by omega)
            have h2 := (pla_len (s.take j) plaB).2
            rw [List.length_take] at h2
            rw [hS.out]
            omega
          generalize s[j] = y at *
          go_upto_region 14 with fail
          obtain ⟨w16, hw16⟩ : ∃ x, x = (wr).alloc (.cells [.string y.key, .string y.mat, .int .i64 y.left].toArray 38) := ⟨_, rfl⟩
          have hg16 : (wr).grownBy w16 none := by rw [hw16]; exact gr_alloc (World.grownBy.refl _ _) _
          have hb16 : Box w16 (wr).heap.size 38 [.string y.key, .string y.mat, .int .i64 y.left] := by rw [hw16]; exact Box.new _ _ _
          have hxs16 := hb16.lt
          rw [← hw16]
          clear hw16
          obtain ⟨x16, hx16⟩ : ∃ x, x = (wr).heap.size := ⟨_, rfl⟩
          rw [← hx16] at hb16 hxs16 ⊢
          have hxl16 : (wr).heap.size ≤ x16 := by omega
          clear hx16
          have hm16 := hm.kept hg16 (by simp)
          have hxm : x16 ≠ ml := by have := hm.lt; omega
          obtain ⟨p0, -⟩ := hb16.c 0 rfl
          obtain ⟨p2, -⟩ := hb16.c 2 rfl
          obtain ⟨w9, hrun, hm9, hg9⟩ := storeI hm16 (by unfold maxLen; omega) hok y.left
          have hb9 := hb16.gr hg9 (fun e => hxm (by injection e with e; exact e.symm))
          have hgz := gr_new (hgr.t hg16) hg9 hml7
          obtain ⟨q1, -⟩ := hb9.c 1 rfl
          obtain ⟨q2, -⟩ := hb9.c 2 rfl
          clear c0 c1 c2 hm hm16 hb16 hg16 hgr hMI hb9 hg9 hok
          go_upto_region 15 with fail
          clear p0 p2 hrun
          by_cases hmt : y.mat = plaB
          · have hq : (y.mat.toList == [112, 108, 97]) = true := mat_eq hmt
            have hS2 : Hid (S + y.left = (plaL (s.take (j + 1)) plaB).sum) := by
              rw [Hid, hst.out, if_pos hmt, List.sum_append, ← hS.out]
              simp
            clear hmt hst hS
            go_wp2_with fail
            (go_roundw; (case rel => exact ⟨j + 1, _, S + y.left, by omega, by go_num, rfl, hS2, hm9, hMI2, hgz⟩); (case measure => simp [intOf]; omega))
          · have hq : (y.mat.toList == [112, 108, 97]) = false := mat_ne hmt
            have hS2 : Hid (S = (plaL (s.take (j + 1)) plaB).sum) := by
              rw [Hid, hst.out, if_neg hmt, List.append_nil, ← hS.out]
            clear hmt hst hS
            go_wp2_with fail
            (go_roundw; (case rel => exact ⟨j + 1, _, S, by omega, by go_num, rfl, hS2, hm9, hMI2, hgz⟩); (case measure => simp [intOf]; omega))
        · have hj2 : j = s.length := by omega
          subst hj2
          have hSz : Hid (S = (plaL s plaB).sum) := by
            have h1 := hS.out
            rwa [List.take_length] at h1
          have hW : Hid (W = decide (need ≤ S)) := by rw [Hid, hSz.out]; exact hCk.out.1
          have hWd : (W == decide (need ≤ S)) = true := by rw [hW.out]; simp
          have hmpn := hm
          clear hS
          -- what the chosen ones have
          obtain ⟨f, hf⟩ : ∃ f : ByteArray → Int, f = fun k => (mp k).getD 0 := ⟨_, rfl⟩
          have hcI : Hid (∀ k ∈ cks, okK k ∧ 0 ≤ f k ∧ f k ≤ 1000000000) := fun k hk => by
            rcases hWb : W with _ | _
            · rw [hCk.out.2.1 hWb] at hk
              cases hk
            · obtain ⟨I, h1, h2, h3⟩ := hCk.out.2.2 hWb
              rw [h1] at hk
              obtain ⟨i, hi, rfl⟩ := List.mem_map.1 hk
              obtain ⟨h4, h5⟩ := h3.1 i hi
              obtain ⟨h6, h7⟩ := pla_at hF.out hMI.out i h4
              rw [hf]
              simp only [h7, Option.getD_some]
              have h8 := hpb.out ((plaL s plaB).getD i 0) (by rw [getD_at h4]; exact List.getElem_mem h4)
              exact ⟨h6, h8⟩
          obtain ⟨T, hT⟩ : ∃ T, T = (cks.map f).sum := ⟨_, rfl⟩
          have hTT : Hid ((W = true → need ≤ T) ∧ ∀ k ∈ cks, T - f k < need) := by
            rcases hWb : W with _ | _
            · refine ⟨(fun h => by cases h), fun k hk => ?_⟩
              rw [hCk.out.2.1 hWb] at hk
              cases hk
            · obtain ⟨I, h1, h2, h3⟩ := hCk.out.2.2 hWb
              have h9 : cks.map f = I.map (fun i => (plaL s plaB).getD i 0) := by
                rw [h1, List.map_map]
                refine List.map_congr_left fun i hi => ?_
                obtain ⟨h6, h7⟩ := pla_at hF.out hMI.out i (h3.1 i hi).1
                show f _ = _
                rw [hf]
                simp only [h7, Option.getD_some]
              rw [hT, h9]
              refine ⟨fun _ => h2, fun k hk => ?_⟩
              rw [h1] at hk
              obtain ⟨i, hi, rfl⟩ := List.mem_map.1 hk
              obtain ⟨h4, h5⟩ := h3.1 i hi
              obtain ⟨h6, h7⟩ := pla_at hF.out hMI.out i h4
              have e : f ((plaK s plaB).getD i default) = (plaL s plaB).getD i 0 := by rw [hf]; simp only [h7, Option.getD_some]
              rw [e]
              exact h5
          have hcl : cks.length ≤ maxLen := hl7.1
          have hcl2 : Hid (cks.length ≤ 50) := by
            rcases hWb : W with _ | _
            · rw [Hid, hCk.out.2.1 hWb]; simp
            · obtain ⟨I, h1, h2, h3⟩ := hCk.out.2.2 hWb
              have h4 := (pla_len s plaB).2
              rw [Hid, h1, List.length_map]
              omega
          have hc50 : cks.length ≤ 50 := hcl2.out
          have ho8 : out.length ≤ 8 := by
            rcases hVb : V with _ | _
            · rw [hV2.out hVb]; simp
            · rw [hVl.out hVb]; omega
          have hlk := hide fun (wx : World) (h : wr.grownBy wx none) (k : ByteArray) (hk : okK k) => lookI (hm.kept h (by simp)) hk
          have hf0 : Hid (∀ k, (mp k).getD 0 = f k) := fun k => by rw [hf]
          replace hT := hide hT
          obtain ⟨wb, hwb⟩ : ∃ y, y = wr := ⟨_, rfl⟩
          rw [← hwb] at hlk hmpn hgr ⊢
          clear hwb hm hf
          go_wp2_with fail
          go_loopw [17, 99] (fun a i wr => ∃ q : Nat, q ≤ cks.length ∧ i = .int .i64 q ∧ a = .int .i64 ((cks.take q).map f).sum ∧ wb.grownBy wr none) (fun _ i _ => cks.length - (intOf i).toNat)
          case atStart => exact ⟨0, Nat.zero_le _, rfl, by simp, World.grownBy.refl _ _⟩
          case round =>
            obtain ⟨q, hq, rfl, rfl, hg2⟩ := hrel
            by_cases hqn : q < cks.length
            · obtain ⟨g, o, cx, rfl, -, -, rfl, hc⟩ := (hl7.pure (hgr.t hg2)).at_ (by decide) hqn
              have c0 : wr.cell? ⟨g, o + q, none⟩ = some (.string cks[q]) := by
                have h1 := hc 0 _ rfl
                rwa [show Enc.sz ByteArray = 1 from rfl, Nat.mul_one] at h1
              clear hc
              obtain ⟨h1, h2, h3⟩ := hcI.out _ (List.getElem_mem hqn)
              have hlk1 := hlk.out wr hg2 cks[q] h1
              rw [hf0.out] at hlk1
              have hst : Hid (((cks.take (q + 1)).map f).sum = ((cks.take q).map f).sum + f cks[q]) := by
                rw [Hid, List.take_succ_eq_append_getElem hqn, List.map_append, List.sum_append]
                simp
              have hsb := sum_bd (l := (cks.take q).map f) (M := 1000000000) (fun v hv => by
                obtain ⟨k, hk, rfl⟩ := List.mem_map.1 hv
                exact (hcI.out k (List.mem_of_mem_take hk)).2) (by omega)
              have hln : (((cks.take q).map f).length : Int) ≤ 50 := by
                have := hcl2.out
                rw [List.length_map, List.length_take]
                omega
              generalize cks[q] = k at *
              generalize ((cks.take q).map f).sum = Z at *
              have hzb : 0 ≤ Z ∧ Z ≤ 50000000000 := ⟨hsb.1, by have := hsb.2; omega⟩
              generalize f k = fk at *
              clear hsb hln
              go_wp2_with fail
              (go_roundw; (case rel => exact ⟨q + 1, by omega, by go_num, by rw [hst.out], hg2⟩); (case measure => simp [intOf]; omega))
            · have hq2 : q = cks.length := by omega
              subst hq2
              rw [List.take_length, ← hT.out]
              have hTb : 0 ≤ T ∧ T ≤ 50000000000 := by
                have hsb := sum_bd (l := cks.map f) (M := 1000000000) (fun v hv => by
                  obtain ⟨k, hk, rfl⟩ := List.mem_map.1 hv
                  exact (hcI.out k hk).2) (by omega)
                have hln : ((cks.map f).length : Int) ≤ 50 := by
                  have := hcl2.out
                  rw [List.length_map]
                  omega
                rw [hT.out]
                omega
              go_wp2_with fail
              go_loopw [111] (fun i wr => ∃ q : Nat, q ≤ cks.length ∧ i = .int .i64 q ∧ wb.grownBy wr none) (fun i _ => cks.length - (intOf i).toNat)
              case atStart => exact ⟨0, Nat.zero_le _, rfl, hg2⟩
              case round =>
                clear hg2
                obtain ⟨q, hq, rfl, hg2⟩ := hrel
                by_cases hqn : q < cks.length
                · obtain ⟨g, o, cx, rfl, -, -, rfl, hc⟩ := (hl7.pure (hgr.t hg2)).at_ (by decide) hqn
                  have c0 : wr.cell? ⟨g, o + q, none⟩ = some (.string cks[q]) := by
                    have h1 := hc 0 _ rfl
                    rwa [show Enc.sz ByteArray = 1 from rfl, Nat.mul_one] at h1
                  clear hc
                  obtain ⟨h1, h2, h3⟩ := hcI.out _ (List.getElem_mem hqn)
                  have hlk1 := hlk.out wr hg2 cks[q] h1
                  rw [hf0.out] at hlk1
                  have hTk := hTT.out.2 _ (List.getElem_mem hqn)
                  generalize cks[q] = k at *
                  generalize f k = fk at *
                  have hb3 : decide (T - fk ≥ need) = false := by simp; omega
                  clear hTk
                  go_wp2_with fail
                  (go_roundw; (case rel => exact ⟨q + 1, by omega, by go_num, hg2⟩); (case measure => simp [intOf]; omega))
                · have hq3 : q = cks.length := by omega
                  subst hq3
                  have hMI0 := hide (MI2.start (m := plaB) hMI.out)
                  have hPt0 : Hid (0 < out.length → ∃ left', PutTo (nd.drop 0) (leftL s plaB) (out.drop 0) left') := fun h => by
                    rw [List.drop_zero, List.drop_zero]
                    rcases hVb : V with _ | _
                    · rw [hV2.out hVb] at h
                      cases h
                    · exact hV1.out hVb
                  have hmz := hmpn.kept hg2 (by simp)
                  have hgz := hgr.t hg2
                  have hTn := hide hTT.out.1
                  clear hlk hmpn hgr hg2 hcI hf0 hT hMI hTT
                  go_wp2_with fail
                  go_loopw [125] (fun i wr => ∃ (q : Nat) (mp : ByteArray → Option Int) (lf : List Int), q ≤ out.length ∧ i = .int .i64 q ∧ MapOf strI wr ml (s.length + q) mp ∧ Hid (MI2 s plaB lf mp) ∧ Hid (∀ v ∈ lf, -1 ≤ v ∧ v ≤ 1000000000) ∧ Hid (q < out.length → ∃ left', PutTo (nd.drop q) lf (out.drop q) left') ∧ w7.grownBy wr none) (fun i _ => out.length - (intOf i).toNat)
                  case atStart => exact ⟨0, mp, leftL s plaB, Nat.zero_le _, rfl, hmz, hMI0, leftL_bd hF.out, hPt0, hgz⟩
                  case round =>
                    clear hmz hMI0 hPt0 hgz mp
                    obtain ⟨q, mp, lf, hq, rfl, hm, hMI, hlb, hP, hgr⟩ := hrel
                    by_cases hqn : q < out.length
                    · obtain ⟨left', hP1⟩ := hP.out hqn
                      have hln := hP1.len.1
                      rw [List.length_drop, List.length_drop] at hln
                      have hqd : q < nd.length := by omega
                      rw [List.drop_eq_getElem_cons hqd, List.drop_eq_getElem_cons hqn] at hP1
                      obtain ⟨k, out', e1, hk, hnk, hP2⟩ := hP1
                      injection e1 with e1 e2
                      have hks : k < s.length := by rw [← hMI.out.1]; exact hk
                      have hnv := hnb.out _ (List.getElem_mem hqd)
                      have hmt := hMI.out.mat hks hnv.1 hnk
                      have hok := spl_okK hF.out k hks
                      obtain ⟨g1, o1, cx1, rfl, -, -, rfl, hc⟩ := ((hl6.pure hgr)).at_ (by decide) hqn
                      have d1 : wr.cell? ⟨g1, o1 + q, none⟩ = some (.int .i64 out[q]) := by
                        have h1 := hc 0 _ rfl
                        rwa [show Enc.sz Int = 1 from rfl, Nat.mul_one] at h1
                      clear hc
                      rw [e1] at d1
                      obtain ⟨g2, o2, cx2, rfl, -, -, rfl, hc⟩ := ((hnd.out.pure (hg7.t hgr))).at_ (by decide) hqd
                      have d2 : wr.cell? ⟨g2, o2 + q, none⟩ = some (.int .i64 nd[q]) := by
                        have h1 := hc 0 _ rfl
                        rwa [show Enc.sz Int = 1 from rfl, Nat.mul_one] at h1
                      clear hc
                      obtain ⟨g, o, cx, rfl, -, -, rfl, hc⟩ := (hs.out.pure hg7).at_ (by decide) hks
                      have z0 : w7.cell? ⟨g, o + k * 3, none⟩ = some (.string s[k].key) := hc 0 _ rfl
                      have z1 : w7.cell? ⟨g, o + k * 3 + 1, none⟩ = some (.string s[k].mat) := hc 1 _ rfl
                      clear hc
                      have c0 := hgr.k z0
                      have c1 := hgr.k z1
                      have hlv := hlb.out _ (List.getElem_mem hk)
                      have hgd := getD_at hk
                      have hmv := (hMI.out.2 k hks).1 hmt
                      rw [← e2, hgd] at hP2
                      rw [hgd] at hnk hmv
                      have hMI2 := hide (hMI.out.step hF.out hks hmt (lf[k] - nd[q]))
                      have hP3 : Hid (q + 1 < out.length → ∃ left', PutTo (nd.drop (q + 1)) (lf.set k (lf[k] - nd[q])) (out.drop (q + 1)) left') := fun _ => ⟨left', hP2⟩
                      have hlb2 : Hid (∀ v ∈ lf.set k (lf[k] - nd[q]), -1 ≤ v ∧ v ≤ 1000000000) := fun v hv => by
                        rcases List.mem_or_eq_of_mem_set hv with h | h
                        · exact hlb.out v h
                        · omega
                      have hq3 : (s[k].mat.toList == [112, 108, 97]) = true := mat_eq hmt
                      generalize lf[k] = v at *
                      generalize nd[q] = nn at *
                      generalize s[k] = y at *
                      replace e1 := hide e1
                      clear hP hP2 e2 hgd hMI hlb hmt hln
                      have hbk1 : decide ((k : Int) < 0) = false := decide_eq_false (by omega)
                      have hbk2 : decide ((k : Int) ≥ (s.length : Int)) = false := decide_eq_false (by omega)
                      have hbk3 : decide (s.length ≤ k) = false := decide_eq_false (by omega)
                      go_upto_region 37 with fail
                      clear hbk1 hbk2 hbk3 hq3
                      have hY := hide fun wx (h : wr.grownBy wx none) => And.intro (hm.kept h (by simp)) (And.intro (h.k c0) (h.k d2))
                      clear hm c1 d1 c0 d2 z1
                      refine wp_region_tree (fun wx => wr.grownBy wx none) [2, 2, 2, 2, 2, 1, 1, 2, 2, 2, 1, 2, 0] (.bl 0 (.bl 1 (.bl 2 (.bl 3 (.bl 4 (.bl 5 (.bl 6 (.bl 7 (.bl 8 (.bl 9 (.bl 10 (.bl 11 (.ef 12 .done))))))))))))) (by kernel_rfl) (by kernel_rfl) (gr_drew (World.grownBy.refl _ _)) ?_
                      obtain ⟨u0, hu0⟩ : ∃ x, x = (wr).drew := ⟨_, rfl⟩
                      rw [← hu0]
                      have hgu0 : (wr).grownBy u0 none := by rw [hu0]; exact gr_drew (World.grownBy.refl _ _)
                      clear hu0
                      refine tree_p rfl rfl rfl rfl _ rfl (by simp) (fun K hK => ?_)
                      apply Exists.intro
                      refine ⟨fun wq K' hK' => ?_, ?_⟩
                      · go_wp2_with fail
                        exact hK'
                      go_simp
                      refine hK _ ?_
                      clear hK K
                      refine tree_p rfl rfl rfl rfl _ rfl (by simp) (fun K hK => ?_)
                      apply Exists.intro
                      refine ⟨fun wq K' hK' => ?_, ?_⟩
                      · go_wp2_with fail
                        exact hK'
                      go_simp
                      refine hK _ ?_
                      clear hK K
                      refine tree_p rfl rfl rfl rfl _ rfl (by simp) (fun K hK => ?_)
                      apply Exists.intro
                      refine ⟨fun wq K' hK' => ?_, ?_⟩
                      · go_wp2_with fail
                        exact hK'
                      go_simp
                      refine hK _ ?_
                      clear hK K
                      refine tree_p rfl rfl rfl rfl _ rfl (by simp) (fun K hK => ?_)
                      apply Exists.intro
                      refine ⟨fun wq K' hK' => ?_, ?_⟩
                      · go_wp2_with fail
                        exact hK'
                      go_simp
                      refine hK _ ?_
                      clear hK K
                      refine tree_p rfl rfl rfl rfl _ rfl (by simp) (fun K hK => ?_)
                      apply Exists.intro
                      refine ⟨fun wq K' hK' => ?_, ?_⟩
                      · go_wp2_with fail
                        exact hK'
                      go_simp
                      refine hK _ ?_
                      clear hK K
                      refine tree_b rfl rfl rfl rfl _ rfl (by simp) (fun K hK => ?_)
                      apply Exists.intro
                      refine ⟨fun wq hq K' hK' => ?_, ?_⟩
                      · obtain ⟨hmq, c0, d2⟩ := hY.out wq hq
                        have hlk := lookI hmq hok
                        rw [hmv, Option.getD_some] at hlk
                        go_wp2_with fail
                        exact hK'
                      go_simp
                      refine hK _ ?_
                      clear hK K
                      refine tree_b rfl rfl rfl rfl _ rfl (by simp) (fun K hK => ?_)
                      apply Exists.intro
                      refine ⟨fun wq hq K' hK' => ?_, ?_⟩
                      · obtain ⟨hmq, c0, d2⟩ := hY.out wq hq
                        have hlk := lookI hmq hok
                        rw [hmv, Option.getD_some] at hlk
                        go_wp2_with fail
                        exact hK'
                      go_simp
                      refine hK _ ?_
                      clear hK K
                      refine tree_p rfl rfl rfl rfl _ rfl (by simp) (fun K hK => ?_)
                      apply Exists.intro
                      refine ⟨fun wq K' hK' => ?_, ?_⟩
                      · go_wp2_with fail
                        exact hK'
                      go_simp
                      refine hK _ ?_
                      clear hK K
                      refine tree_p rfl rfl rfl rfl _ rfl (by simp) (fun K hK => ?_)
                      apply Exists.intro
                      refine ⟨fun wq K' hK' => ?_, ?_⟩
                      · go_wp2_with fail
                        exact hK'
                      go_simp
                      refine hK _ ?_
                      clear hK K
                      refine tree_p rfl rfl rfl rfl _ rfl (by simp) (fun K hK => ?_)
                      apply Exists.intro
                      refine ⟨fun wq K' hK' => ?_, ?_⟩
                      · go_wp2_with fail
                        exact hK'
                      go_simp
                      refine hK _ ?_
                      clear hK K
                      refine tree_b rfl rfl rfl rfl _ rfl (by simp) (fun K hK => ?_)
                      apply Exists.intro
                      refine ⟨fun wq hq K' hK' => ?_, ?_⟩
                      · obtain ⟨hmq, c0, d2⟩ := hY.out wq hq
                        have hlk := lookI hmq hok
                        rw [hmv, Option.getD_some] at hlk
                        go_wp2_with fail
                        exact hK'
                      go_simp
                      refine hK _ ?_
                      clear hK K
                      refine tree_p rfl rfl rfl rfl _ rfl (by simp) (fun K hK => ?_)
                      apply Exists.intro
                      refine ⟨fun wq K' hK' => ?_, ?_⟩
                      · go_wp2_with fail
                        exact hK'
                      go_simp
                      refine hK _ ?_
                      clear hK K
                      refine tree_e0 (by kernel_rfl) rfl rfl (fun K hK => ?_)
                      obtain ⟨hmq, -, -⟩ := hY.out u0 (gr_trans hgu0 (World.grownBy.refl _ _))
                      obtain ⟨w9, hrun, hm9, hg9⟩ := storeI hmq (by unfold maxLen; omega) hok (v - nn)
                      go_wp2_with fail
                      try go_simp
                      refine hK _ _ trivial ?_
                      clear hK K
                      refine tree_done ?_
                      have hgz := gr_new (hgr.t hgu0) hg9 hml7
                      have c0 := hgz.k z0
                      have hlk := lookI hm9 hok
                      rw [updM_same, Option.getD_some] at hlk
                      have hb6 : decide (v - nn < 0) = false := by simp; omega
                      clear hrun hg9 hmq
                      go_wp2_with fail
                      (go_roundw; (case rel => exact ⟨q + 1, _, lf.set k (v - nn), by omega, by go_num, hm9, hMI2, hlb2, hP3, hgz⟩); (case measure => simp [intOf]; omega))
                    · have hq4 : q = out.length := by omega
                      subst hq4
                      clear hP hMI hlb
                      rcases hWb : W with _ | _
                      · go_wp2_with fail
                        refine (ready_any _).mono ?_
                        rintro e wr9 ⟨rfl, hr9⟩
                        go_wp2_with fail
                        go_ret
                        exact ⟨rfl, hgw.t (hg7.t (hgr.t hr9))⟩
                      · have hTg := hTn.out hWb
                        have hb5 : decide (T ≥ need) = true := by simp; omega
                        clear hTn
                        go_wp2_with fail
                        refine (ready_any _).mono ?_
                        rintro e wr9 ⟨rfl, hr9⟩
                        go_wp2_with fail
                        go_ret
                        exact ⟨rfl, hgw.t (hg7.t (hgr.t hr9))⟩
    · have hb : (ndsF nd != 0) = true := by simp [hF2]
      generalize ndsF nd = Z at *
      clear hF2
      go_wp2_with fail
      refine hSF.out.mono ?_
      rintro e w4 ⟨rfl, hg4⟩
      go_wp2_with fail
      refine (hNF.out w4 hg4).mono ?_
      rintro e w5 ⟨rfl, hg5⟩
      go_wp2_with fail
      refine (ready_any _).mono ?_
      rintro e wr9 ⟨rfl, hr9⟩
      go_wp2_with fail
      go_ret
      exact ⟨rfl, hgw.t (hg4.t (hg5.t hr9))⟩
  · have hb : (splsF s != 0) = true := by simp [hF]
    generalize splsF s = Z at *
    replace hSF := hide hSF
    clear hF
    go_wp2_with fail
    refine hSF.out.mono ?_
    rintro e w4 ⟨rfl, hg4⟩
    go_wp2_with fail
    refine (ready_any _).mono ?_
    rintro e wr9 ⟨rfl, hr9⟩
    go_wp2_with fail
    go_ret
    exact ⟨rfl, hgw.t (hg4.t hr9)⟩

end Go.Proofs.YtpdhbhlnopmifaaGreatDoor
