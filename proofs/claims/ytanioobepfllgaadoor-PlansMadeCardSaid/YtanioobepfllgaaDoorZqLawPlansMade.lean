/- Contracts of functions that this seat's laws reach, each: what one call returns and what it leaves in memory; no condition beyond each theorem's own hypotheses. -/
import Derived.Test.YtanioobepfllgaaDoorZqPmA
import Derived.Test.YtanioobepfllgaaDoorZqJobN
import Derived.Test.YtanioobepfllgaaDoorZqEarRefA
import Derived.Test.YtanioobepfllgaaDoorZqFarmR
set_option linter.unusedVariables false
set_option linter.unusedSimpArgs false
namespace Go.Proofs.YtanioobepfllgaaDoor
open Go Go.RowKit Go.Bl

theorem ferr_or (p : List Prn) (j : List Jb) (ch : Int) : orL [farmF p j, spanF ch 0 100000] = ferr p j ch := by rw [or2]; rfl

set_option maxHeartbeats 8000000 in
set_option maxRecDepth 100000 in
theorem plansMade_law (A : Option Addr) (n c : Nat) (L : List Int) (w : World) (hL : Sl w 0 A L) (hn : L.length = n) :
    Calls Tryd.prog 3 #[.slice A n c] w fun e w' => e = .returned (.bool true) ∧ w.grownBy w' none := by
  have hs0 := strm_new (c := c) 25 hL hn
  have hg0 := gr_alloc (World.grownBy.refl w none) (.cells #[.slice A n c, .int .i64 0] 25)
  have hS0 := SOut.refl hs0
  go_enter Tryd.func3, Tryd.ntmps3
  go_wp2_with fail
  refine (printerList_any _ 0 2 _ hs0 (by omega) (by omega)).mono ?_
  rintro e w1 ⟨p, A1, c1, rfl, hp, hp3, hpc, ho1⟩
  replace hS0 := hS0.trans ho1
  go_wp2_with fail
  refine (jobListN_any _ _ 4 _ hS0.2 (by omega) (by omega)).mono ?_
  rintro e w2 ⟨j, A2, c2, rfl, hj, hj4, -, ho2⟩
  replace hS0 := hS0.trans ho2
  replace hp := hp.gr ho2.1 (fun x e => by injection e; omega)
  go_wp2_with fail
  refine (changeTime_any _ _ _ hS0.2 (by omega)).mono ?_
  rintro e w3 ⟨ch, rfl, -, ho3⟩
  replace hS0 := hS0.trans ho3
  replace hp := hp.gr ho3.1 (fun x e => by injection e; omega)
  replace hj := hj.gr ho3.1 (fun x e => by injection e; omega)
  go_wp2_with fail
  refine (flip_any _ _ 3 _ hS0.2 (by omega) (by omega)).mono ?_
  rintro e w4 ⟨v, rfl, ho4⟩
  replace hS0 := hS0.trans ho4
  replace hp := hp.gr ho4.1 (fun x e => by injection e; omega)
  replace hj := hj.gr ho4.1 (fun x e => by injection e; omega)
  clear ho1 ho2 ho3 ho4 hs0
  go_upto_if 34 with fail
  go_cut [4, 5] (fun s4 s5 wx => ∃ (p : List Prn) (A1 : Option Addr) (c1 : Nat) (j : List Jb) (A2 : Option Addr) (c2 : Nat), s4 = .slice A1 p.length c1 ∧ s5 = .slice A2 j.length c2 ∧ Sl wx 0 A1 p ∧ Sl wx 0 A2 j ∧ p.length ≤ 3 ∧ p.length ≤ c1 ∧ j.length ≤ 4 ∧ w.grownBy wx none)
  case first =>
    rcases v with _ | _
    · go_wp2_with fail
      go_meet
      exact ⟨p, A1, c1, j, A2, c2, rfl, rfl, hp.mono (Nat.zero_le _), hj.mono (Nat.zero_le _), hp3, hpc, hj4, gr_new hg0 hS0.1 (Nat.le_refl _)⟩
    · clear hp hp3 hpc hj hj4
      go_wp2_with fail
      refine (printerList_any _ _ 3 _ hS0.2 (by omega) (by omega)).mono ?_
      rintro e w5 ⟨p, B1, e1, rfl, hp, hp3, hpc, ho1⟩
      replace hS0 := hS0.trans ho1
      go_wp2_with fail
      refine (jobListN_any _ _ 3 _ hS0.2 (by omega) (by omega)).mono ?_
      rintro e w6 ⟨j, B2, e2, rfl, hj, hj4, -, ho2⟩
      replace hS0 := hS0.trans ho2
      replace hp := hp.gr ho2.1 (fun x e => by injection e; omega)
      go_wp2_with fail
      go_meet
      exact ⟨p, B1, e1, j, B2, e2, rfl, rfl, hp.mono (Nat.zero_le _), hj.mono (Nat.zero_le _), hp3, hpc, by omega, gr_new hg0 hS0.1 (Nat.le_refl _)⟩
  case rest =>
  clear hp hj hp3 hj4 hpc hS0 hg0 p j c1 c2 A1 A2
  obtain ⟨p, A1, c1, j, A2, c2, rfl, rfl, hp, hj, hp3, hpc, hj4, hgw⟩ := hcut
  clear hL
  have hV := hide (ferr_or p j ch)
  have hFF := hide (farmFault_any A1 c1 p A2 c2 j _ hp hj)
  generalize farmF p j = F1 at *
  go_wp2_with fail
  refine hFF.out.mono ?_
  rintro e w7 ⟨rfl, hg7⟩
  clear hFF
  replace hp := hp.pure hg7
  replace hj := hj.pure hg7
  replace hgw := hgw.t hg7
  clear hg7
  go_wp2_with (go_at_call 10; refine (changeFault_any _ _).mono ?_; rintro _ _ ⟨rfl, rfl⟩)
  refine (or_any _ _ _ [F1, spanF ch 0 100000] _ (sl_intsAt _ _ _ _ _ rfl (Nat.zero_le _) (by simp [maxLen])) rfl).mono ?_
  rintro e w8 ⟨rfl, h1⟩
  rw [hV.out]
  replace h1 : w7.grownBy w8 none := by rw [← h1]; exact gr_alloc (World.grownBy.refl _ _) _
  replace hp := hp.pure h1
  replace hj := hj.pure h1
  replace hgw := hgw.t h1
  clear h1
  clear hV
  have hEa := hide (earliestAll_any A1 c1 p A2 c2 j ch _ hp hj (by omega) (by omega))
  have hGr := hide fun W (h : w8.grownBy W none) => greedyAll_any A1 c1 p A2 c2 j ch W (hp.pure h) (hj.pure h)
  have hEO := hide fun (h : ferr p j ch = 0) W (hg : w8.grownBy W none) => earliestOf_any A1 c1 p A2 c2 j ch W (hp.pure hg) (hj.pure hg) (ferr_zero h).1 (ferr_zero h).2 (by omega) (by omega)
  have hGO := hide fun (h : ferr p j ch = 0) W (hg : w8.grownBy W none) => greedyOf_any A1 c1 p A2 c2 j ch W (hp.pure hg) (hj.pure hg) (ferr_zero h).1 (ferr_zero h).2
  go_wp2_with fail
  refine hEa.out.mono ?_
  rintro e w9 ⟨B, d, R, V, rfl, hR0, hR, hg9⟩
  clear hEa
  go_wp2_with fail
  refine (hGr.out _ hg9).mono ?_
  rintro e w10 ⟨B2, d2, G, V2, rfl, hG0, hG, hg10⟩
  replace hR := hR.pure hg10
  replace hg10 := hg9.t hg10
  clear hGr hg9
  unfold EarF at hR0
  unfold GreF at hG0
  generalize ferr p j ch = FA at *
  go_upto_if 63 with fail
  go_cut [14, 15, 16, 17] (fun s14 s15 s16 s17 wx => ∃ (B3 : Option Addr) (d3 : Nat) (B4 : Option Addr) (d4 : Nat), s14 = .slice B3 R.length d3 ∧ s15 = .slice B4 G.length d4 ∧ s16 = .int .i64 V ∧ s17 = .int .i64 V2 ∧ Sl wx 0 B3 R ∧ Sl wx 0 B4 G ∧ w10.grownBy wx none)
  case first =>
    by_cases hz : FA = 0
    · obtain ⟨hb, rfl⟩ := hR0.1 hz
      obtain ⟨rfl, rfl⟩ := hG0.1 hz
      clear hR0 hG0 hp hj
      have hEa := hide (hEO.out hz w10 hg10)
      replace hGO := hide (hGO.out hz)
      generalize hGG : greP p j ch j.length = G at *
      generalize hVG : lstP p j ch G = V2 at *
      clear hEO hGG hVG
      subst hz
      go_wp2_with fail
      refine hEa.out.mono ?_
      rintro e w11 ⟨B3, d3, R', rfl, hb', h3, hg11⟩
      obtain rfl := hb.uniq hb'
      clear hEa hb hb'
      generalize lstP p j ch R = V at *
      go_wp2_with fail
      refine (hGO.out _ (hg10.t hg11)).mono ?_
      rintro e w12 ⟨B4, d4, rfl, h4, hg12⟩
      clear hGO
      go_wp2_with fail
      go_meet
      exact ⟨B3, d3, B4, d4, rfl, rfl, rfl, rfl, h3.pure hg12, h4, hg11.t hg12⟩
    · obtain ⟨rfl, rfl⟩ := hR0.2 hz
      obtain ⟨rfl, rfl⟩ := hG0.2 hz
      clear hR0 hG0 hp hj hEO hGO
      go_wp2_with fail
      go_meet
      exact ⟨none, 0, none, 0, rfl, rfl, rfl, rfl, Sl.nil, Sl.nil, World.grownBy.refl _ _⟩
  case rest =>
  obtain ⟨B3, d3, B4, d4, rfl, rfl, rfl, rfl, hR3, hG4, hgc⟩ := hcut
  replace hR := hR.pure hgc
  replace hG := hG.pure hgc
  replace hp := hp.pure (hg10.t hgc)
  replace hj := hj.pure (hg10.t hgc)
  replace hgw := hgw.t (hg10.t hgc)
  clear hEO hGO hR0 hG0 hg10 hgc
  have hbF : (FA != FA) = false := by simp
  have hbV : (V != V) = false := by simp
  have hbV2 : (V2 != V2) = false := by simp
  have hs1 := hide (sameRowsD_any B d R B3 d3 _ hR hR3)
  have hs2 := hide fun W (h : wc.grownBy W none) => sameRowsD_any B2 d2 G B4 d4 W (hG.pure h) (hG4.pure h)
  clear hR hR3 hG hG4
  go_wp2_with fail
  refine hs1.out.mono ?_
  rintro e w11 ⟨rfl, hg11⟩
  clear hs1
  go_wp2_with fail
  refine (hs2.out _ hg11).mono ?_
  rintro e w12 ⟨rfl, hg12⟩
  clear hs2
  replace hg12 := hg11.t hg12
  replace hp := hp.pure hg12
  replace hj := hj.pure hg12
  replace hgw := hgw.t hg12
  clear hg12
  clear hg11 hbF hbV hbV2
  by_cases h0 : p.length = 0
  · have hb0 : (p.length : Int) = 0 := by omega
    go_wp2_with fail
    refine (farmed_any _).mono ?_
    rintro e wz ⟨rfl, hgz⟩
    go_wp2_with fail
    go_ret
    exact ⟨rfl, hgw.t hgz⟩
  have hb0 : ¬ (p.length : Int) = 0 := by omega
  obtain ⟨x, p', rfl⟩ := List.exists_cons_of_ne_nil (show p ≠ [] by rintro rfl; exact h0 rfl)
  have hp0 : Sl w12 0 A1 [x] := hp.take 1
  obtain ⟨gp, op, cp, rfl, _, _, rfl, hcp⟩ := hp.at_ (by decide) (k := 0) (by simp)
  have p0 : w12.cell? ⟨gp, op, none⟩ = some (.string x.key) := by simpa using hcp 0 _ rfl
  have p1 : w12.cell? ⟨gp, op + 1, none⟩ = some (.string x.mat) := by simpa using hcp 1 _ rfl
  have hpc1 : 1 ≤ c1 := by simp at hpc; omega
  have hV := hide (ferr_or [x] j ch)
  have hFF := hide (farmFault_any (some ⟨gp, op, none⟩) c1 [x] A2 c2 j _ hp0 hj)
  generalize farmF [x] j = F1 at *
  clear hcp hp hpc h0 hp3 hp0
  go_wp2_with fail
  refine hFF.out.mono ?_
  rintro e w7 ⟨rfl, hg7⟩
  clear hFF
  replace p0 := hg7.k p0
  replace p1 := hg7.k p1
  replace hj := hj.pure hg7
  replace hgw := hgw.t hg7
  clear hg7
  go_wp2_with (go_at_call 10; refine (changeFault_any _ _).mono ?_; rintro _ _ ⟨rfl, rfl⟩)
  refine (or_any _ _ _ [F1, spanF ch 0 100000] _ (sl_intsAt _ _ _ _ _ rfl (Nat.zero_le _) (by simp [maxLen])) rfl).mono ?_
  rintro e w8 ⟨rfl, h1⟩
  rw [hV.out]
  replace h1 : w7.grownBy w8 none := by rw [← h1]; exact gr_alloc (World.grownBy.refl _ _) _
  replace p0 := h1.k p0
  replace p1 := h1.k p1
  replace hj := hj.pure h1
  replace hgw := hgw.t h1
  clear h1 hV
  have hLa := hide (leastAll_any x A2 c2 j ch _ hj (by omega))
  have hLO := hide fun (h : ferr [x] j ch = 0) W (hg : w8.grownBy W none) => leastLateOf_any x.key x.mat A2 c2 j ch W (hj.pure hg) (ferr_zero h).1 (ferr_zero h).2 (by omega)
  go_wp2_with fail
  refine hLa.out.mono ?_
  rintro e w9 ⟨B, d, LL, V, rfl, hL0, hLs, hg9⟩
  replace p0 := hg9.k p0
  replace p1 := hg9.k p1
  clear hLa
  unfold LatF at hL0
  generalize ferr [x] j ch = FE at *
  by_cases hz : FE = 0
  · obtain ⟨e1, e2⟩ := hL0.1 hz
    replace hLO := hide (hLO.out hz w9 hg9)
    rw [← e1, ← e2] at hLO
    clear e1 e2 hL0
    subst hz
    replace hgw := hgw.t hg9
    clear hj hg9
    go_wp2_with fail
    refine hLO.out.mono ?_
    rintro e w10 ⟨B3, d3, rfl, -, h3, hg10⟩
    clear hLO
    have hEq := hide (equalInts_any B B3 d d3 LL LL w10 (hLs.pure hg10) h3)
    rw [eqB_refl] at hEq
    replace hgw := hgw.t hg10
    clear h3 hLs hg10
    go_wp2_with fail
    refine hEq.out.mono ?_
    rintro e w11 ⟨rfl, hg11⟩
    go_wp2_with fail
    refine (farmed_any _).mono ?_
    rintro e wz ⟨rfl, hgz⟩
    go_wp2_with fail
    go_ret
    exact ⟨rfl, hgw.t (hg11.t hgz)⟩
  · obtain ⟨rfl, rfl⟩ := hL0.2 hz
    have hb1 : (FE != 0) = true := by simp [hz]
    have hb2 : (FE == FE) = true := by simp
    replace hgw := hgw.t hg9
    clear hL0 hLO hLs hj hg9 hz
    go_wp2_with fail
    refine (farmed_any _).mono ?_
    rintro e wz ⟨rfl, hgz⟩
    go_wp2_with fail
    go_ret
    exact ⟨rfl, hgw.t hgz⟩

end Go.Proofs.YtanioobepfllgaaDoor
