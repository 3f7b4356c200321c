/- Contracts of functions that this seat's laws reach, each: what one call returns and what it leaves in memory; no condition beyond each theorem's own hypotheses. -/
import Derived.Test.YtoldefommoiiiaaGreatDoorZqRegTxD
import Derived.Test.YtoldefommoiiiaaGreatDoorZqChgA
import Derived.Test.YtoldefommoiiiaaGreatDoorZqRegRefC
set_option linter.unusedVariables false
set_option linter.unusedSimpArgs false
namespace Go.Proofs.YtoldefommoiiiaaGreatDoor
open Go Go.RowKit Go.Bl

set_option maxHeartbeats 4000000 in
set_option maxRecDepth 100000 in
theorem linesRdg_any (W0 : World) (xo lo : Nat) (s : ByteArray) (w : World) (R : List (List Pt) × Option Nat) (S0 : List (List Pt)) (hS : RdG W0 xo lo 0 S0 w) (hs : s.size ≤ 200000) (hT : Tab W0) (hR : readL stepR S0 0 (linesK s.data.toList).1 (linesK s.data.toList).2 = R) :
    Calls Tryz.prog 53 #[.string s, .func (.func 54) #[] #[.pointer (some ⟨xo, 0, none⟩)]] w fun e w' => (∀ st i, R = (st, some i) → e = .returned (.tuple #[.int .i64 i, .bool false]) ∧ W0.grownBy w' none) ∧ (∀ st, R = (st, none) → e = .returned (.tuple #[.int .i64 0, .bool true]) ∧ RdG W0 xo lo 200001 st w') := by
  replace hR := hide hR
  replace hS := hide hS
  go_enter Tryz.func53, Tryz.ntmps53
  go_wp2_with fail
  go_loopw [0, 6] (fun o i wr => ∃ (k : Nat) (u : ByteArray) (st : List (List Pt)), i = .int .i64 k ∧ o = .string u ∧ k + u.size ≤ 200000 ∧ Hid (readL stepR st k (linesK u.data.toList).1 (linesK u.data.toList).2 = R) ∧ Hid (RdG W0 xo lo k st wr)) (fun _ i _ => 200001 - (intOf i).toNat)
  case atStart => exact ⟨0, s, S0, rfl, rfl, by omega, hR, hS⟩
  case round =>
    clear hR hS
    obtain ⟨k, u, st, rfl, rfl, hku, hR, hS⟩ := hrel
    have hemp : u.toList.isEmpty = u.data.toList.isEmpty := by rw [Lib.toList_data]
    by_cases h0 : u.data.toList = []
    · have hRe : R = (st, none) := by rw [← hR.out, h0]; rfl
      rw [h0] at hemp
      simp only [List.isEmpty_nil] at hemp
      replace h0 := hide h0
      replace hRe := hide hRe
      go_wp2_with fail
      go_ret2
      refine ⟨fun st2 i e => ?_, fun st2 e => ?_⟩
      · rw [hRe.out] at e; cases e
      · rw [hRe.out] at e
        injection e with e1 _
        subst e1
        exact ⟨rfl, RdG.more hS.out (by omega)⟩
    · have hne : u.data.toList.isEmpty = false := by cases h : u.data.toList with
        | nil => exact absurd h h0
        | cons => rfl
      rw [hne] at hemp
      have hgS : W0.grownBy wr none := RdG.gr hS.out
      by_cases h10 : (10 : UInt8) ∈ u.data.toList
      · obtain ⟨x, r, hxr, hx⟩ := first_at h10
        have hu : u = mkB (x ++ 10 :: r) := mkB_ext hxr
        subst hu
        rw [mkB_data] at *
        have hul : (mkB (x ++ 10 :: r)).size = x.length + r.length + 1 := by rw [mkB_size]; simp; omega
        rw [hul] at hku
        have hcut := cut_hit x r 10 wr hx (by omega)
        have hR2 := hR.out
        rw [linesK_hit r hx] at hR2
        have hCl := fun wx (hSx : RdG W0 xo lo k st wx) => rdgClo_any W0 xo lo k st (mkB x) wx hSx (by rw [mkB_size]; omega) (by omega) hT
        rw [mkB_data] at hCl
        have hSg : ∀ wx, wr.grownBy wx none → RdG W0 xo lo k st wx := fun wx hgx => RdG.up hS.out hgx
        generalize hU : mkB (x ++ 10 :: r) = U at *
        clear hxr h10 h0 hne hul hU hR hS
        cases hst : stepR st x with
        | none =>
          rw [hst] at hCl
          rw [readL_bad _ _ _ hst] at hR2
          replace hR2 := hide hR2
          replace hx := hide hx
          clear hst
          go_wp2_with fail
          refine hcut.mono ?_
          rintro e w2 ⟨rfl, hg2⟩
          clear hcut
          go_wp2_with fail
          refine (hCl _ (hSg _ hg2)).mono ?_
          rintro e w3 ⟨rfl, -, hg3⟩
          go_wp2_with fail
          all_goals go_ret2
          all_goals exact ⟨fun st2 i e => by rw [← hR2.out] at e; injection e with e1 e2; injection e2 with e2; subst e2; exact ⟨rfl, hg3⟩, fun st2 e => by rw [← hR2.out] at e; cases e⟩
        | some st2 =>
          rw [hst] at hCl
          rw [readL_good _ _ _ hst (linesK_rest r)] at hR2
          replace hR2 := hide hR2
          replace hx := hide hx
          clear hst
          go_wp2_with fail
          refine hcut.mono ?_
          rintro e w2 ⟨rfl, hg2⟩
          clear hcut
          go_wp2_with fail
          refine (hCl _ (hSg _ hg2)).mono ?_
          rintro e w3 ⟨rfl, hn, hg3⟩
          have hS3 := hide (hn st2 rfl)
          go_wp2_with fail
          first
            | exact ⟨⟨k + 1, mkB r, st2, by go_num, rfl, by rw [mkB_size]; omega, hR2, hS3⟩, by simp [intOf]; omega⟩
            | (go_roundw; (case rel => exact ⟨k + 1, mkB r, st2, by go_num, rfl, by rw [mkB_size]; omega, hR2, hS3⟩); (case measure => simp [intOf]; omega))
      · have hR2 := hR.out
        rw [linesK_none h0 h10, readL_open] at hR2
        have hcut := cut_miss u 10 wr h10
        replace hR2 := hide hR2
        replace h0 := hide h0
        replace h10 := hide h10
        clear hR hS hne
        go_wp2_with fail
        refine hcut.mono ?_
        rintro e w2 ⟨rfl, hg2⟩
        clear hcut
        go_wp2_with fail
        all_goals go_ret2
        all_goals exact ⟨fun st2 i e => by rw [← hR2.out] at e; injection e with e1 e2; injection e2 with e2; subst e2; exact ⟨rfl, hgS.t hg2⟩, fun st2 e => by rw [← hR2.out] at e; cases e⟩

theorem rdG_start (w : World) : RdG w w.heap.size (w.heap.size + 1) 0 [] { w with heap := w.heap.push (.cells #[.slice none 0 0] 26) } := by
  have hga := gr_alloc (World.grownBy.refl w none) (.cells #[.slice none 0 0] 26)
  refine ⟨none, 0, [], RowsN.made (n := 0) (Own.nil _ _ _) (by decide) ?_, Box.new w _ _, Nat.le_refl _, by simp, hga, Nat.le_refl _, Nat.lt_succ_self _, ?_⟩
  · simp
  · simp

set_option maxHeartbeats 4000000 in
set_option maxRecDepth 100000 in
theorem regReadRef_any (s : ByteArray) (w : World) (hT : Tab w) :
    Calls Tryz.prog 15 #[.string s] w fun e w' => ∃ A c, e = .returned (.tuple #[.slice A (readR s.data.toList).1.length c, .int .i64 (readR s.data.toList).2.1, .int .i64 (readR s.data.toList).2.2]) ∧ Sl w' 0 A (readR s.data.toList).1 ∧ w.grownBy w' none := by
  have hsz := Lib.size_eq s
  obtain ⟨RR, hRR⟩ : ∃ r, readR s.data.toList = r := ⟨_, rfl⟩
  rw [hRR]
  by_cases hbig : 200000 < s.size
  · have hR : RR = ([], 0, 2) := by rw [← hRR, readR_def, if_pos (by omega)]
    subst hR
    clear hRR hsz
    have hb : decide ((s.size : Int) > 200000) = true := by simp; omega
    go_enter Tryz.func15, Tryz.ntmps15
    go_wp2_with fail
    exact bodyPost_ret (v := .tuple #[.slice none 0 0, .int .i64 0, .int .i64 2]) (by simp [results, Tryz.results15, go_sem]) rfl ⟨none, 0, rfl, Sl.nil, World.grownBy.refl _ _⟩
  · have hb : decide ((s.size : Int) > 200000) = false := by simp; omega
    obtain ⟨Q, hQ⟩ : ∃ q, readL stepR [] 0 (linesK s.data.toList).1 (linesK s.data.toList).2 = q := ⟨_, rfl⟩
    have hR : endR Q = RR := by rw [← hRR, readR_def, if_neg (by omega), hQ]
    have hLn := linesRdg_any w w.heap.size (w.heap.size + 1) s _ Q [] (rdG_start w) (by omega) hT hQ
    clear hRR hQ hsz
    rcases Q with ⟨st, _ | i⟩
    · have hfin : finR st = RR := hR
      have hn := fun wx (e : Ending) (h : (∀ st2 i, (st, (none : Option Nat)) = (st2, some i) → e = .returned (.tuple #[.int .i64 i, .bool false]) ∧ w.grownBy wx none) ∧ (∀ st2, (st, (none : Option Nat)) = (st2, none) → e = .returned (.tuple #[.int .i64 0, .bool true]) ∧ RdG w w.heap.size (w.heap.size + 1) 200001 st2 wx)) => h.2 st rfl
      replace hfin := hide hfin
      replace hn := hide hn
      clear hR
      go_enter Tryz.func15, Tryz.ntmps15
      go_wp2_with fail
      refine hLn.mono ?_
      intro e w2 hh
      obtain ⟨rfl, hS⟩ := hn.out _ _ hh
      clear hLn hh hn
      obtain ⟨A2, c2, raws, hRow, hbox, hrk, hpl, hg, h0, hxl, hlo⟩ := hS
      obtain ⟨y0, y1⟩ := hbox.c 0 rfl
      have hsl := hRow.sl.mono (Nat.zero_le _)
      have hflat : (flatK st st.length).length ≤ 1000000 := by rw [flatK_all (Nat.le_refl _)]; omega
      have hC := fun wx (hx : w2.grownBy wx none) => regionFault_any A2 c2 st wx (hsl.pure hx) hflat (by rw [← hRow.len]; exact hRow.out.cap)
      rw [← hRow.len] at hC
      have hrl := hRow.len
      obtain ⟨F, hF⟩ : ∃ F, regF st = F := ⟨_, rfl⟩
      rw [hF] at hC
      have hend := hfin.out
      unfold finR at hend
      rw [hF] at hend
      replace hrl := hide hrl
      replace hpl := hide hpl
      clear hRow hF hfin
      by_cases hF0 : F = 0
      · subst hF0
        rw [if_pos rfl] at hend
        replace hend := hide hend
        go_wp2_with fail
        refine (hC _ (World.grownBy.refl _ _)).mono ?_
        rintro e w3 ⟨rfl, hg3⟩
        have hb3 := hbox.pure hg3
        obtain ⟨z0, z1⟩ := hb3.c 0 rfl
        clear hC
        go_wp2_with fail
        exact bodyPost_ret (v := .tuple #[.slice A2 raws.length c2, .int .i64 0, .int .i64 0]) (by simp [results, Tryz.results15, go_sem]) rfl ⟨A2, c2, by rw [← hend.out, hrl.out], by rw [← hend.out]; exact hsl.pure hg3, hg.t hg3⟩
      · have hb0 : (F != 0) = true := by simp [hF0]
        rw [if_neg hF0] at hend
        replace hend := hide hend
        replace hF0 := hide hF0
        go_wp2_with fail
        refine (hC _ (World.grownBy.refl _ _)).mono ?_
        rintro e w3 ⟨rfl, hg3⟩
        clear hC
        go_wp2_with fail
        exact bodyPost_ret (v := .tuple #[.slice none 0 0, .int .i64 0, .int .i64 F]) (by simp [results, Tryz.results15, go_sem]) rfl ⟨none, 0, by rw [← hend.out]; rfl, by rw [← hend.out]; exact Sl.nil, hg.t hg3⟩
    · have hfin : ([], (i : Int), 9) = RR := hR
      have hn := fun wx (e : Ending) (h : (∀ st2 j, (st, some i) = (st2, some j) → e = .returned (.tuple #[.int .i64 j, .bool false]) ∧ w.grownBy wx none) ∧ (∀ st2, (st, some i) = (st2, none) → e = .returned (.tuple #[.int .i64 0, .bool true]) ∧ RdG w w.heap.size (w.heap.size + 1) 200001 st2 wx)) => h.1 st i rfl
      replace hfin := hide hfin
      replace hn := hide hn
      clear hR
      go_enter Tryz.func15, Tryz.ntmps15
      go_wp2_with fail
      refine hLn.mono ?_
      intro e w2 hh
      obtain ⟨rfl, hg⟩ := hn.out _ _ hh
      clear hLn hh hn
      go_wp2_with fail
      exact bodyPost_ret (v := .tuple #[.slice none 0 0, .int .i64 i, .int .i64 9]) (by simp [results, Tryz.results15, go_sem]) rfl ⟨none, 0, by rw [← hfin.out]; rfl, by rw [← hfin.out]; exact Sl.nil, hg⟩

end Go.Proofs.YtoldefommoiiiaaGreatDoor
