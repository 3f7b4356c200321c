/- Contracts of functions that this seat's laws reach, each: what one call returns and what it leaves in memory; no condition beyond each theorem's own hypotheses. -/
import Derived.Test.YtanioobepfllgaaGreatDoorZqReady
import Derived.Test.YtanioobepfllgaaGreatDoorZqLateG
import Derived.Test.YtanioobepfllgaaGreatDoorZqGreA
import Derived.Test.YtanioobepfllgaaGreatDoorZqFarmQ
import Derived.Test.YtanioobepfllgaaGreatDoorZqGreData
set_option linter.unusedVariables false
set_option linter.unusedSimpArgs false
namespace Go.Proofs.YtanioobepfllgaaGreatDoor
open Go Go.RowKit Go.Bl

theorem ends_pl {p : List Prn} {j : List Jb} {ch : Int} {Q : List (List Int)} (hF : farmF p j = 0) (hc : spanF ch 0 100000 = 0) (h : IsPl p.length j.length Q) : planF p j Q = 0 ∧ plannedF p j Q ch = 0 ∧ endsN p j Q ch = lstP p j ch Q := by
  have h1 := (isPl_plan (p := p) hF).2 h
  have h2 : plannedF p j Q ch = 0 := by
    unfold plannedF
    rw [if_pos h1]
    exact hc
  refine ⟨h1, h2, ?_⟩
  unfold endsN
  rw [if_pos h2, lst_end h.len]

set_option maxHeartbeats 8000000 in
set_option maxRecDepth 100000 in
theorem noPlan_law (A : Option Addr) (n c : Nat) (L : List Int) (w : World) (hL : Sl w 0 A L) (hn : L.length = n) :
    Calls Tryz.prog 3 #[.slice A n c] w fun e w' => e = .returned (.bool true) ∧ w.grownBy w' none := by
  have hs0 := strm_new (c := c) 25 hL hn
  have hg0 := gr_alloc (World.grownBy.refl w none) (.cells #[.slice A n c, .int .i64 0] 25)
  have hS0 := SOut.refl hs0
  go_enter Tryz.func3, Tryz.ntmps3
  go_wp2_with fail
  refine (rightPrinters_any _ 0 3 _ hs0 (by omega) (by omega)).mono ?_
  rintro e w1 ⟨p, A1, c1, rfl, hp, hp3, hpc, hpF, ho1⟩
  replace hS0 := hS0.trans ho1
  go_wp2_with fail
  refine (rightJobs_any _ _ 5 _ hS0.2 (by omega) (by omega)).mono ?_
  rintro e w2 ⟨j, A2, c2, rfl, hj, hj5, -, hjF, ho2⟩
  replace hS0 := hS0.trans ho2
  replace hp := hp.gr ho2.1 (fun x e => by injection e; omega)
  have hbw2 := hS0.2.lt
  go_wp2_with fail
  refine (pick_any w.heap.size _ _ _ _ [0, 5, 10, 30] _ (hS0.2.pure (gr_alloc (World.grownBy.refl _ _) _)) (by omega) (sl_intsAt _ _ _ _ _ (by first | rfl | simp) (by omega) (by simp [maxLen])) rfl (by simp)).mono ?_
  rintro e w3 ⟨ch, rfl, hch, ho3⟩
  replace hp := ((hp.pure (gr_alloc (World.grownBy.refl _ _) _)).gr ho3.1 (fun x e => by injection e; omega))
  replace hj := ((hj.pure (gr_alloc (World.grownBy.refl _ _) _)).gr ho3.1 (fun x e => by injection e; omega))
  replace hS0 := (hS0.al _).trans ho3
  have hc : Hid (spanF ch 0 100000 = 0) := by
    rw [Hid]
    simp only [List.mem_cons, List.not_mem_nil, or_false] at hch
    rcases hch with rfl | rfl | rfl | rfl <;> decide
  have hF : Hid (farmF p j = 0) := by rw [Hid]; unfold farmF; rw [if_pos hpF]; exact hjF
  clear hch hpF hjF ho1 ho2 ho3 hpc
  go_wp2_with fail
  refine (aPlan_any _ _ A1 c1 p A2 c2 j w3 hS0.2 (by omega) (by omega) (by omega)).mono ?_
  rintro e w4 ⟨plan, A4, c4, rfl, hpl, hplM, -, -, ho4⟩
  replace hp := hp.gr ho4.1 (fun x e => by injection e; omega)
  replace hj := hj.gr ho4.1 (fun x e => by injection e; omega)
  have hgw : w.grownBy w4 none := gr_new hg0 (hS0.trans ho4).1 (Nat.le_refl _)
  replace hplM := hide hplM
  clear hS0 ho4 hs0 hg0 hbw2
  replace hp := hp.mono (Nat.zero_le _)
  replace hj := hj.mono (Nat.zero_le _)
  replace hpl := hpl.mono (Nat.zero_le _)
  have hE := hide (earliest_any A1 c1 p A2 c2 j ch w4 hp hj hF.out hc.out (by omega) (by omega))
  go_wp2_with fail
  refine hE.out.mono ?_
  rintro e w5 ⟨B, d, rB, R, rfl, hbest, hRd, hRB, hg5⟩
  clear hE
  replace hp := hp.pure hg5
  replace hj := hj.pure hg5
  replace hpl := hpl.pure hg5
  replace hgw := hgw.t hg5
  have hR := hRB.sl.mono (Nat.zero_le _)
  clear hRB
  have hG := hide (greedy_any A1 c1 p A2 c2 j ch w5 hp hj hF.out hc.out)
  go_wp2_with fail
  refine hG.out.mono ?_
  rintro e w6 ⟨B2, d2, rB2, G, rfl, hGe, hGd, hGB, hg6⟩
  clear hG
  replace hp := hp.pure hg6
  replace hj := hj.pure hg6
  replace hpl := hpl.pure hg6
  replace hgw := hgw.t hg6
  replace hR := hR.pure hg6
  have hGs := hGB.sl.mono (Nat.zero_le _)
  clear hGB hg5 hg6
  have hB := bound_any A1 c1 p A2 c2 j w6 hp hj
  rw [hF.out] at hB
  have hp0 := (farm_plen hF.out).1
  have hok := jok_of hF.out hc.out
  have hGpl : IsPl p.length j.length G := by rw [hGe]; exact greP_isPl hp0
  have hnm : lstP p j ch R ≤ lstP p j ch G := (hbest.2 G hGpl).last
  have hbn : boundT p j ≤ lstP p j ch R := by
    unfold boundT
    rw [if_pos hF.out]
    exact bound_le hok hp0 hbest.1
  have hER := ends_pl hF.out hc.out hbest.1
  have hEG := ends_pl hF.out hc.out hGpl
  have hPlan : Hid (planF p j plan = 0 → plannedF p j plan ch = 0 ∧ lstP p j ch R ≤ endsN p j plan ch) := fun h => by
    have h1 := (isPl_plan (p := p) hF.out).1 h
    obtain ⟨-, h2, h3⟩ := ends_pl hF.out hc.out h1
    exact ⟨h2, by rw [h3]; exact (hbest.2 plan h1).last⟩
  have hends := hide fun W (Q : List (List Int)) C e0 (h1 : Sl W 0 A1 p) (h2 : Sl W 0 A2 j) (h3 : Sl W 0 C Q) => endsTop_any A1 c1 p A2 c2 j C e0 Q ch W h1 h2 h3
  clear hGe hok hp0 hGpl hbest hF hc
  generalize hVN : lstP p j ch R = VN at *
  generalize hVM : lstP p j ch G = VM at *
  generalize boundT p j = VB at *
  clear hVN hVM
  replace hER := hide hER
  replace hEG := hide hEG
  replace hB := hide hB
  go_wp2_with fail
  refine hB.out.mono ?_
  rintro e w7 ⟨rfl, hg7⟩
  clear hB
  replace hp := hp.pure hg7
  replace hj := hj.pure hg7
  replace hpl := hpl.pure hg7
  replace hgw := hgw.t hg7
  replace hR := hR.pure hg7
  replace hGs := hGs.pure hg7
  clear hg7
  go_wp2_with fail
  obtain ⟨w20, hw20⟩ : ∃ x, x = (w7).alloc (.cells [.slice B R.length d, .slice B2 G.length d2].toArray 31) := ⟨_, rfl⟩
  have hg20 : (w7).grownBy w20 none := by rw [hw20]; exact gr_alloc (World.grownBy.refl _ _) _
  have hb20 : Box w20 (w7).heap.size 31 [.slice B R.length d, .slice B2 G.length d2] := by rw [hw20]; exact Box.new _ _ _
  have hxs20 := hb20.lt
  rw [← hw20]
  clear hw20
  obtain ⟨x20, hx20⟩ : ∃ x, x = (w7).heap.size := ⟨_, rfl⟩
  rw [← hx20] at hb20 hxs20 ⊢
  have hxl20 : (w7).heap.size ≤ x20 := by omega
  clear hx20
  replace hp := hp.pure hg20
  replace hj := hj.pure hg20
  replace hpl := hpl.pure hg20
  replace hgw := hgw.t hg20
  replace hR := hR.pure hg20
  replace hGs := hGs.pure hg20
  clear hg20
  go_loopw [88] (fun i wr => ∃ k : Nat, k ≤ 2 ∧ i = .int .i64 k ∧ w20.grownBy wr none) (fun i _ => 2 - (intOf i).toNat)
  case atStart => exact ⟨0, by omega, rfl, World.grownBy.refl _ _⟩
  case round =>
    obtain ⟨k, hk, rfl, hg⟩ := hrel
    have hgr := hg
    by_cases hlt : k < 2
    · rcases (show k = 0 ∨ k = 1 by omega) with rfl | rfl
      · have hXs := (hR).pure hgr
        have hpr := hp.pure hgr
        have hjr := hj.pure hgr
        have hEn := hide (hends.out wr R B d hpr hjr hXs)
        obtain ⟨f1, f2, f3⟩ := hER.out
        have hCP := hide fun W (h : wr.grownBy W none) => checkPlan_any A1 c1 p A2 c2 j B d R W (hpr.pure h) (hjr.pure h) (hXs.pure h)
        rw [f2, f3] at hEn
        rw [f1] at hCP
        clear f1 f2 f3 hXs hpr hjr
        obtain ⟨x0, -⟩ := (hb20.pure hg).c 0 rfl
        obtain ⟨x1, -⟩ := (hb20.pure hg).c 1 rfl
        go_wp2_with fail
        refine hEn.out.mono ?_
        rintro e w8 ⟨A8, c8, rfl, -, hg8⟩
        have hga := hg8.t (gr_alloc (World.grownBy.refl w8 none) (.cells #[.int .i64 VN, .int .i64 VM] 3))
        go_wp2_with fail
        refine (hCP.out _ hga).mono ?_
        rintro e w9 ⟨rfl, hg9⟩
        replace hga := hg.t (hga.t hg9)
        clear hEn hCP hg8 hg9 x0 x1
        go_wp2_with fail
        go_roundw
        case rel => exact ⟨1, by omega, rfl, hga⟩
        case measure => simp [intOf]
      · have hXs := (hGs).pure hgr
        have hpr := hp.pure hgr
        have hjr := hj.pure hgr
        have hEn := hide (hends.out wr G B2 d2 hpr hjr hXs)
        obtain ⟨f1, f2, f3⟩ := hEG.out
        have hCP := hide fun W (h : wr.grownBy W none) => checkPlan_any A1 c1 p A2 c2 j B2 d2 G W (hpr.pure h) (hjr.pure h) (hXs.pure h)
        rw [f2, f3] at hEn
        rw [f1] at hCP
        clear f1 f2 f3 hXs hpr hjr
        obtain ⟨x0, -⟩ := (hb20.pure hg).c 0 rfl
        obtain ⟨x1, -⟩ := (hb20.pure hg).c 1 rfl
        go_wp2_with fail
        refine hEn.out.mono ?_
        rintro e w8 ⟨A8, c8, rfl, -, hg8⟩
        have hga := hg8.t (gr_alloc (World.grownBy.refl w8 none) (.cells #[.int .i64 VN, .int .i64 VM] 3))
        go_wp2_with fail
        refine (hCP.out _ hga).mono ?_
        rintro e w9 ⟨rfl, hg9⟩
        replace hga := hg.t (hga.t hg9)
        clear hEn hCP hg8 hg9 x0 x1
        go_wp2_with fail
        go_roundw
        case rel => exact ⟨2, by omega, rfl, hga⟩
        case measure => simp [intOf]
    · have hPF := hide (planFault_any A1 c1 p A2 c2 j A4 c4 plan wr (hp.pure hg) (hj.pure hg) (hpl.pure hg) (by rw [flatK_all (Nat.le_refl _)]; have := hplM.out; omega))
      have hEn := hide fun W (h : wr.grownBy W none) => hends.out W plan A4 c4 (hp.pure (hg.t h)) (hj.pure (hg.t h)) (hpl.pure (hg.t h))
      obtain rfl : k = 2 := by omega
      by_cases hz : planF p j plan = 0
      · obtain ⟨h1, h2⟩ := hPlan.out hz
        rw [hz] at hPF
        rw [h1] at hEn
        generalize endsN p j plan ch = VE at *
        clear hz h1
        go_wp2_with fail
        refine hPF.out.mono ?_
        rintro e w8 ⟨rfl, hg8⟩
        go_wp2_with fail
        refine (hEn.out w8 hg8).mono ?_
        rintro e w9 ⟨A9, c9, rfl, -, hg9⟩
        go_wp2_with fail
        refine (ready_any _).mono ?_
        rintro e wz ⟨rfl, hgz⟩
        go_wp2_with fail
        go_ret
        exact ⟨rfl, hgw.t (hg.t (hg8.t (hg9.t hgz)))⟩
      · have hb : (planF p j plan != 0) = true := by simp [hz]
        generalize planF p j plan = PF at *
        clear hz
        go_wp2_with fail
        refine hPF.out.mono ?_
        rintro e w8 ⟨rfl, hg8⟩
        go_wp2_with fail
        refine (ready_any _).mono ?_
        rintro e wz ⟨rfl, hgz⟩
        go_wp2_with fail
        go_ret
        exact ⟨rfl, hgw.t (hg.t (hg8.t hgz))⟩

end Go.Proofs.YtanioobepfllgaaGreatDoor
