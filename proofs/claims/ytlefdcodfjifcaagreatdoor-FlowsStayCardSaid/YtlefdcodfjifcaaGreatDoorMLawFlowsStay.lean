/- Contracts of functions that this seat's laws reach, each: what one call returns and what it leaves in memory; no condition beyond each theorem's own hypotheses. -/
import Derived.Test.YtlefdcodfjifcaaGreatDoorMStayA
import Derived.Test.YtlefdcodfjifcaaGreatDoorMFarmC
import Derived.Test.YtlefdcodfjifcaaGreatDoorMReady
import Derived.Test.YtlefdcodfjifcaaGreatDoorMFlowG
import Derived.Test.YtlefdcodfjifcaaGreatDoorMFlowI
set_option linter.unusedVariables false
set_option linter.unusedSimpArgs false
namespace Go.Proofs.YtlefdcodfjifcaaGreatDoor
open Go Go.RowKit Go.Bl

theorem eqB_same {α : Type} [DecidableEq α] (l : List α) : eqB l l = true := by simp [eqB]

theorem slow_two {a b : Int} (ha : 0 ≤ a ∧ a ≤ 9) (hb : 0 ≤ b ∧ b ≤ 9) : slowed [a, b] 0 = [a, b] ∧ timesF [a, b] 0 = 0 := by
  have h : timesF [a, b] 0 = 0 := by
    unfold timesF
    rw [if_neg (by simp), if_pos]
    simp [okTime, outB]
    omega
  refine ⟨?_, h⟩
  unfold slowed
  rw [h]
  simp [slowTo]
  omega

set_option maxHeartbeats 1000000 in
theorem leftBad_any (A : Option Addr) (c : Nat) (s : List Spl) (B : Option Addr) (e0 : Nat) (d : List Drw) (at_ : Int) (w : World) (hl : Sl w 0 A s) (hm : Sl w 0 B d) (hf : drwsF s d ≠ 0) :
    Calls Tryz.prog 26 #[.slice A s.length c, .slice B d.length e0, .int .i64 at_] w fun e w' => e = .returned (.tuple #[.slice none 0 0, .int .i64 (drwsF s d)]) ∧ w.grownBy w' none := by
  have hD := drawsFault_any A c s B e0 d w hl hm
  generalize drwsF s d = F at *
  have hb : (F != 0) = true := by simp [hf]
  clear hf
  go_enter Tryz.func26, Tryz.ntmps26
  go_wp2_with fail
  refine hD.mono ?_
  rintro e w1 ⟨rfl, hg1⟩
  clear hD
  go_wp2_with fail
  go_ret2
  exact ⟨rfl, hg1⟩

set_option maxHeartbeats 4000000 in
set_option maxRecDepth 100000 in
theorem flowsStay_law (A : Option Addr) (n c : Nat) (L : List Int) (w : World) (hL : Sl w 0 A L) (hn : L.length = n) :
    Calls Tryz.prog 4 #[.slice A n c] w fun e w' => e = .returned (.bool true) ∧ w.grownBy w' none := by
  have hs0 := strm_new (c := c) 25 hL hn
  have hg0 := gr_alloc (World.grownBy.refl w none) (.cells #[.slice A n c, .int .i64 0] 25)
  have hS0 := SOut.refl hs0
  go_enter Tryz.func4, Tryz.ntmps4
  go_wp2_with fail
  refine (beadList_any _ 0 _ hs0 (by omega)).mono ?_
  rintro e w1 ⟨b, A1, c1, rfl, hol, hb6, ho1⟩
  replace hS0 := hS0.trans ho1
  have hsz1 := ho1.size
  simp at hsz1
  have hB := hol.sl.mono (show w.heap.size + 1 ≤ _ by simp)
  clear hol
  go_wp2_with fail
  refine (range_any _ _ 0 9 _ hS0.2 (by omega) (by omega) (by omega) (by omega)).mono ?_
  rintro e w2 ⟨t1, rfl, ht1, ho2⟩
  replace hS0 := hS0.trans ho2
  replace hB := hB.s ho2 (Nat.lt_succ_self _)
  have hsz2 := ho2.size
  clear ho1 ho2
  go_wp2_with fail
  refine (range_any _ _ 0 9 _ hS0.2 (by omega) (by omega) (by omega) (by omega)).mono ?_
  rintro e w3 ⟨t2, rfl, ht2, ho3⟩
  replace hS0 := hS0.trans ho3
  replace hB := hB.s ho3 (Nat.lt_succ_self _)
  have hsz3 := ho3.size
  have hST := slow_two ht1 ht2
  replace hST := hide hST
  clear ho3 ht1 ht2
  have hT := sl_intsAt w3 (w.heap.size + 1) 3 [t1, t2] w3.heap.size rfl (by omega) (by simp [maxLen])
  simp only [List.map_cons, List.map_nil] at hT
  replace hB := hB.pure (gr_alloc (World.grownBy.refl w3 none) (.cells [Value.int .i64 t1, .int .i64 t2].toArray 3))
  replace hS0 := hS0.al (.cells [Value.int .i64 t1, .int .i64 t2].toArray 3)
  go_wp2_with fail
  refine (spoolList_any _ _ _ hS0.2 (by omega)).mono ?_
  rintro e w4 ⟨s, A4, c4, rfl, hS, hs5, -, ho4⟩
  replace hS0 := hS0.trans ho4
  replace hB := hB.s ho4 (Nat.lt_succ_self _)
  replace hT := hT.s ho4 (Nat.lt_succ_self _)
  clear ho4
  go_wp2_with fail
  refine (drawList_any _ _ _ hS0.2 (by omega)).mono ?_
  rintro e w5 ⟨d, A5, c5, rfl, hD, hd8, -, ho5⟩
  replace hS0 := hS0.trans ho5
  replace hB := (hB.s ho5 (Nat.lt_succ_self _)).mono (Nat.zero_le _)
  replace hT := (hT.s ho5 (Nat.lt_succ_self _)).mono (Nat.zero_le _)
  replace hS := (hS.s ho5 (Nat.lt_succ_self _)).mono (Nat.zero_le _)
  replace hD := hD.mono (Nat.zero_le _)
  have hgw : w.grownBy w5 none := gr_new hg0 hS0.1 (Nat.le_refl _)
  clear ho5 hS0 hs0 hg0 hL hsz1 hsz2 hsz3
  go_wp2_with fail
  refine (cloneBead_any _ _ b _ hB (by omega)).mono ?_
  rintro e w6 ⟨B1, c51, rfl, hB2, h6⟩
  replace hB2 := hB2.sl.mono (Nat.zero_le _)
  replace hB := hB.pure h6
  replace hT := hT.pure h6
  replace hS := hS.pure h6
  replace hD := hD.pure h6
  replace hgw := hgw.t h6
  clear h6
  go_wp2_with fail
  have hCl := cloneInt_any _ 2 [t1, t2] _ hT (by simp)
  simp only [List.length_cons, List.length_nil, Nat.zero_add, Nat.reduceAdd] at hCl
  refine hCl.mono ?_
  rintro e w7 ⟨B2, c6, rfl, hT2, h6⟩
  clear hCl
  replace hT2 := hT2.sl.mono (Nat.zero_le _)
  replace hB2 := hB2.pure h6
  replace hB := hB.pure h6
  replace hT := hT.pure h6
  replace hS := hS.pure h6
  replace hD := hD.pure h6
  replace hgw := hgw.t h6
  clear h6
  go_wp2_with fail
  refine (cloneSpl_any _ _ s _ hS (by omega)).mono ?_
  rintro e w8 ⟨B3, c7, rfl, hS2, h6⟩
  replace hS2 := hS2.sl.mono (Nat.zero_le _)
  replace hT2 := hT2.pure h6
  replace hB2 := hB2.pure h6
  replace hB := hB.pure h6
  replace hT := hT.pure h6
  replace hS := hS.pure h6
  replace hD := hD.pure h6
  replace hgw := hgw.t h6
  clear h6
  go_wp2_with fail
  refine (cloneDrw_any _ _ d _ hD (by omega)).mono ?_
  rintro e w9 ⟨B4, c8, rfl, hD2, h6⟩
  replace hD2 := hD2.sl.mono (Nat.zero_le _)
  replace hS2 := hS2.pure h6
  replace hT2 := hT2.pure h6
  replace hB2 := hB2.pure h6
  replace hB := hB.pure h6
  replace hT := hT.pure h6
  replace hS := hS.pure h6
  replace hD := hD.pure h6
  replace hgw := hgw.t h6
  clear h6
  have hSl := slowed_any _ 2 [t1, t2] 0 _ hT
  rw [hST.out.1, hST.out.2] at hSl
  generalize grown [t1, t2] 0 = gr at hSl
  simp only [List.length_cons, List.length_nil, Nat.zero_add, Nat.reduceAdd] at hSl
  go_wp2_with fail
  refine hSl.mono ?_
  rintro e v1 ⟨B5, c9, rfl, hT3, k1⟩
  clear hSl
  go_wp2_with fail
  have hE := equalInts_any _ _ c9 c6 [t1, t2] [t1, t2] v1 (hT3.sl.mono (Nat.zero_le _)) (hT2.pure k1)
  rw [eqB_same] at hE
  simp only [List.length_cons, List.length_nil, Nat.zero_add, Nat.reduceAdd] at hE
  refine hE.mono ?_
  rintro e v2 ⟨rfl, k2⟩
  clear hE
  go_wp2_with fail
  refine (spoilInts_any _ _ _ _ _ _ (hT3.pure k2) rfl).mono ?_
  rintro e v3 ⟨rfl, k3⟩
  have hh := gr_row (k1.t k2) k3 (fun g e => (hT3.blk_lt e).1)
  clear k1 k2 k3 hT3 hST
  go_wp2_with fail
  refine (positions_any _ _ b 40 _ (hB.pure hh)).mono ?_
  rintro e v4 ⟨B6, c10, rfl, hP, k4⟩
  by_cases ha : areaFault b 40 = 0
  · rw [ha]
    replace ha := hide ha
    generalize positions b 40 = Ps at *
    go_wp2_with fail
    refine (spoilInts_any _ _ _ _ _ _ hP rfl).mono ?_
    rintro e v5 ⟨rfl, k5⟩
    have hh1 := hh.t (gr_row k4 k5 (fun g e => (hP.blk_lt e).1))
    clear hP k4 k5 hh
    go_wp2_with fail
    by_cases hz : drwsF s d = 0
    · have hLf := left_any A4 c4 s A5 c5 d 345686399999 _ (hS.pure hh1) (hD.pure hh1) hz (by decide)
      have hfl := (follW_len s d (cutK d 345686399999)).1
      generalize (follW s d (cutK d 345686399999)).1 = F at *
      refine hLf.mono ?_
      rintro e z1 ⟨A9, c9, rfl, hO9, r1⟩
      clear hLf
      replace hz := hide hz
      go_wp2_with fail
      refine (spoilInts_any _ _ _ _ _ _ hO9 hfl).mono ?_
      rintro e z2 ⟨rfl, r2⟩
      have hh2 := (hh1).t (gr_row r1 r2 (fun g e => (hO9.blk_lt e).1))
      clear hO9 r1 r2 hfl
      go_wp2_with fail
      refine (sameBead_any _ _ b _ _ _ (hB.pure hh2) (hB2.pure hh2)).mono ?_
      rintro e y1 ⟨rfl, q1⟩
      go_wp2_with fail
      have hE := equalInts_any _ _ 2 c6 [t1, t2] [t1, t2] _ ((hT.pure hh2).pure q1) ((hT2.pure hh2).pure q1)
      rw [eqB_same] at hE
      simp only [List.length_cons, List.length_nil, Nat.zero_add, Nat.reduceAdd] at hE
      refine hE.mono ?_
      rintro e y2 ⟨rfl, q2⟩
      clear hE
      go_wp2_with fail
      refine (sameSpl_any _ _ s _ _ _ (hS.pure ((hh2).t (q1.t q2))) (hS2.pure ((hh2).t (q1.t q2)))).mono ?_
      rintro e y3 ⟨rfl, q3⟩
      go_wp2_with fail
      refine (sameDrw_any _ _ d _ _ _ (hD.pure ((hh2).t (q1.t (q2.t q3)))) (hD2.pure ((hh2).t (q1.t (q2.t q3))))).mono ?_
      rintro e y4 ⟨rfl, q4⟩
      go_wp2_with fail
      refine (ready_any _).mono ?_
      rintro e y5 ⟨rfl, q5⟩
      go_wp2_with fail
      go_ret
      exact ⟨rfl, hgw.t ((hh2).t (q1.t (q2.t (q3.t (q4.t q5)))))⟩
    · refine (leftBad_any _ _ s _ _ d _ _ (hS.pure hh1) (hD.pure hh1) hz).mono ?_
      rintro e z1 ⟨rfl, r1⟩
      have hb : (drwsF s d == 0) = false := by simp [hz]
      generalize drwsF s d = F at *
      replace hz := hide hz
      have hh2 := (hh1).t r1
      clear r1
      go_wp2_with fail
      refine (sameBead_any _ _ b _ _ _ (hB.pure hh2) (hB2.pure hh2)).mono ?_
      rintro e y1 ⟨rfl, q1⟩
      go_wp2_with fail
      have hE := equalInts_any _ _ 2 c6 [t1, t2] [t1, t2] _ ((hT.pure hh2).pure q1) ((hT2.pure hh2).pure q1)
      rw [eqB_same] at hE
      simp only [List.length_cons, List.length_nil, Nat.zero_add, Nat.reduceAdd] at hE
      refine hE.mono ?_
      rintro e y2 ⟨rfl, q2⟩
      clear hE
      go_wp2_with fail
      refine (sameSpl_any _ _ s _ _ _ (hS.pure ((hh2).t (q1.t q2))) (hS2.pure ((hh2).t (q1.t q2)))).mono ?_
      rintro e y3 ⟨rfl, q3⟩
      go_wp2_with fail
      refine (sameDrw_any _ _ d _ _ _ (hD.pure ((hh2).t (q1.t (q2.t q3)))) (hD2.pure ((hh2).t (q1.t (q2.t q3))))).mono ?_
      rintro e y4 ⟨rfl, q4⟩
      go_wp2_with fail
      refine (ready_any _).mono ?_
      rintro e y5 ⟨rfl, q5⟩
      go_wp2_with fail
      go_ret
      exact ⟨rfl, hgw.t ((hh2).t (q1.t (q2.t (q3.t (q4.t q5)))))⟩
  · have hb : (areaFault b 40 == 0) = false := by simp [ha]
    generalize areaFault b 40 = Af at *
    generalize positions b 40 = Ps at *
    replace ha := hide ha
    have hh1 := hh.t k4
    clear hP k4 hh
    go_wp2_with fail
    by_cases hz : drwsF s d = 0
    · have hLf := left_any A4 c4 s A5 c5 d 345686399999 _ (hS.pure hh1) (hD.pure hh1) hz (by decide)
      have hfl := (follW_len s d (cutK d 345686399999)).1
      generalize (follW s d (cutK d 345686399999)).1 = F at *
      refine hLf.mono ?_
      rintro e z1 ⟨A9, c9, rfl, hO9, r1⟩
      clear hLf
      replace hz := hide hz
      go_wp2_with fail
      refine (spoilInts_any _ _ _ _ _ _ hO9 hfl).mono ?_
      rintro e z2 ⟨rfl, r2⟩
      have hh2 := (hh1).t (gr_row r1 r2 (fun g e => (hO9.blk_lt e).1))
      clear hO9 r1 r2 hfl
      go_wp2_with fail
      refine (sameBead_any _ _ b _ _ _ (hB.pure hh2) (hB2.pure hh2)).mono ?_
      rintro e y1 ⟨rfl, q1⟩
      go_wp2_with fail
      have hE := equalInts_any _ _ 2 c6 [t1, t2] [t1, t2] _ ((hT.pure hh2).pure q1) ((hT2.pure hh2).pure q1)
      rw [eqB_same] at hE
      simp only [List.length_cons, List.length_nil, Nat.zero_add, Nat.reduceAdd] at hE
      refine hE.mono ?_
      rintro e y2 ⟨rfl, q2⟩
      clear hE
      go_wp2_with fail
      refine (sameSpl_any _ _ s _ _ _ (hS.pure ((hh2).t (q1.t q2))) (hS2.pure ((hh2).t (q1.t q2)))).mono ?_
      rintro e y3 ⟨rfl, q3⟩
      go_wp2_with fail
      refine (sameDrw_any _ _ d _ _ _ (hD.pure ((hh2).t (q1.t (q2.t q3)))) (hD2.pure ((hh2).t (q1.t (q2.t q3))))).mono ?_
      rintro e y4 ⟨rfl, q4⟩
      go_wp2_with fail
      refine (ready_any _).mono ?_
      rintro e y5 ⟨rfl, q5⟩
      go_wp2_with fail
      go_ret
      exact ⟨rfl, hgw.t ((hh2).t (q1.t (q2.t (q3.t (q4.t q5)))))⟩
    · refine (leftBad_any _ _ s _ _ d _ _ (hS.pure hh1) (hD.pure hh1) hz).mono ?_
      rintro e z1 ⟨rfl, r1⟩
      have hb : (drwsF s d == 0) = false := by simp [hz]
      generalize drwsF s d = F at *
      replace hz := hide hz
      have hh2 := (hh1).t r1
      clear r1
      go_wp2_with fail
      refine (sameBead_any _ _ b _ _ _ (hB.pure hh2) (hB2.pure hh2)).mono ?_
      rintro e y1 ⟨rfl, q1⟩
      go_wp2_with fail
      have hE := equalInts_any _ _ 2 c6 [t1, t2] [t1, t2] _ ((hT.pure hh2).pure q1) ((hT2.pure hh2).pure q1)
      rw [eqB_same] at hE
      simp only [List.length_cons, List.length_nil, Nat.zero_add, Nat.reduceAdd] at hE
      refine hE.mono ?_
      rintro e y2 ⟨rfl, q2⟩
      clear hE
      go_wp2_with fail
      refine (sameSpl_any _ _ s _ _ _ (hS.pure ((hh2).t (q1.t q2))) (hS2.pure ((hh2).t (q1.t q2)))).mono ?_
      rintro e y3 ⟨rfl, q3⟩
      go_wp2_with fail
      refine (sameDrw_any _ _ d _ _ _ (hD.pure ((hh2).t (q1.t (q2.t q3)))) (hD2.pure ((hh2).t (q1.t (q2.t q3))))).mono ?_
      rintro e y4 ⟨rfl, q4⟩
      go_wp2_with fail
      refine (ready_any _).mono ?_
      rintro e y5 ⟨rfl, q5⟩
      go_wp2_with fail
      go_ret
      exact ⟨rfl, hgw.t ((hh2).t (q1.t (q2.t (q3.t (q4.t q5)))))⟩

end Go.Proofs.YtlefdcodfjifcaaGreatDoor
