/- Contracts of functions that this seat's laws reach, each: what one call returns and what it leaves in memory; no condition beyond each theorem's own hypotheses. -/
import Derived.Test.YtanioobepfllgaaGreatDoorZqPrnBin
import Derived.Test.YtanioobepfllgaaGreatDoorZqGreData
import Derived.Test.YtanioobepfllgaaGreatDoorZqRefData
import Derived.BigQuiet
set_option linter.unusedVariables false
set_option linter.unusedSimpArgs false
namespace Go.Proofs.YtanioobepfllgaaGreatDoor
open Go Go.RowKit Go.Bl

set_option maxHeartbeats 4000000 in
set_option maxRecDepth 100000 in
theorem eventFault_any (P A : Option Addr) (pc c : Nat) (p : List Prn) (l : List Ev) (k : Nat) (hlt : k < l.length) (w : World) (hpl : Sl w 0 P p) (hp0 : prnsF p = 0) (hl : Sl w 0 A l) :
    Calls Tryz.prog 77 #[.slice P p.length pc, .slice A l.length c, .int .i64 k] w fun e w' => e = .returned (.int .i64 (erF p l k)) ∧ w.grownBy w' none := by
  have hm := hl.1
  unfold maxLen at hm
  obtain ⟨g, o, cx, rfl, hb0, hb1, rfl, hc⟩ := hl.at_ (by decide) hlt
  have c0 : w.cell? ⟨g, o + k * 5, none⟩ = some (.int .i64 l[k].at_) := hc 0 _ rfl
  have c1 : w.cell? ⟨g, o + k * 5 + 1, none⟩ = some (.int .i64 l[k].kind) := hc 1 _ rfl
  have c2 : w.cell? ⟨g, o + k * 5 + 2, none⟩ = some (.string l[k].pr) := hc 2 _ rfl
  have c3 : w.cell? ⟨g, o + k * 5 + 3, none⟩ = some (.string l[k].job) := hc 3 _ rfl
  have c4 : w.cell? ⟨g, o + k * 5 + 4, none⟩ = some (.string l[k].mat) := hc 4 _ rfl
  clear hc
  have hprev : Hid (∀ j, j + 1 = k → ∃ v : Int, w.cell? ⟨g, o + j * 5, none⟩ = some (.int .i64 v) ∧ lateB l k = decide (l[k].at_ < v)) := fun j hj => by
    have hjl : j < l.length := by omega
    obtain ⟨g', o', cx, e, -, -, rfl, hc⟩ := hl.at_ (by decide) hjl
    cases e
    refine ⟨l[j].at_, hc 0 _ rfl, ?_⟩
    unfold lateB
    rw [decide_eq_true (by omega), Bool.true_and, show l.getD k default = l[k] by simp [List.getD, hlt], show k - 1 = j by omega, show l.getD j default = l[j] by simp [List.getD, hjl]]
  have hlate0 : Hid (k = 0 → lateB l k = false) := fun h => by unfold lateB; rw [decide_eq_false (by omega)]; rfl
  have HV : Hid (erF p l k = _) := erF_at hlt
  generalize erF p l k = F at *
  generalize lateB l k = LB at *
  generalize hdk : l[k] = d at *
  clear hdk hl
  have hFm := hide fun wx => formFault_any d wx
  have hUs := hide fun wx => usedFault_any d wx
  have hPr := hide fun wx (h : w.grownBy wx none) => printerAt_any P pc p d.pr wx (hpl.pure h) hp0
  go_enter Tryz.func77, Tryz.ntmps77
  go_upto_region 2 with fail
  obtain ⟨w7, hw7⟩ : ∃ x, x = (w).alloc (.cells [.int .i64 d.at_, .int .i64 d.kind, .string d.pr, .string d.job, .string d.mat].toArray 60) := ⟨_, rfl⟩
  have hg7 : (w).grownBy w7 none := by rw [hw7]; exact gr_alloc (World.grownBy.refl _ _) _
  have hb7 : Box w7 (w).heap.size 60 [.int .i64 d.at_, .int .i64 d.kind, .string d.pr, .string d.job, .string d.mat] := by rw [hw7]; exact Box.new _ _ _
  have hxs7 := hb7.lt
  rw [← hw7]
  clear hw7
  obtain ⟨x7, hx7⟩ : ∃ x, x = (w).heap.size := ⟨_, rfl⟩
  rw [← hx7] at hb7 hxs7 ⊢
  have hxl7 : (w).heap.size ≤ x7 := by omega
  clear hx7
  clear c0 c1 c2 c3 c4
  have b0 := (hb7.c 0 rfl).1
  have b1 := (hb7.c 1 rfl).1
  have b2 := (hb7.c 2 rfl).1
  go_wp2_with fail
  refine (isMoment_any _ _).mono ?_
  rintro e wq ⟨rfl, rfl⟩
  rcases h1 : momO d.at_ with _ | _
  · rw [h1, if_neg (by decide)] at HV
    replace h1 := hide h1
    simp only [Bool.not_false]
    go_wp2_with fail
    refine (isKind_any _ _).mono ?_
    rintro e wq ⟨rfl, rfl⟩
    rcases h2 : kindO d.kind with _ | _
    · rw [h2, if_neg (by decide)] at HV
      replace h2 := hide h2
      simp only [Bool.not_false]
      go_wp2_with fail
      refine (hPr.out _ hg7).mono ?_
      rintro e w8 ⟨r, rfl, hg8⟩
      have hb8 := hb7.pure hg8
      replace hg8 := hg7.t hg8
      clear b0 b1 b2
      rcases h3 : hasP' p d.pr with _ | _
      · have e : Hid (F = 8) := by have e := HV.out; rw [h3] at e; exact e
        clear HV
        go_wp2_with fail
        go_ret
        exact ⟨ret_int e.out.symm, hg8⟩
      · rw [h3, if_neg (by decide)] at HV
        replace h3 := hide h3
        have b0 := (hb8.c 0 rfl).1
        have b1 := (hb8.c 1 rfl).1
        have b2 := (hb8.c 2 rfl).1
        have b3 := (hb8.c 3 rfl).1
        have b4 := (hb8.c 4 rfl).1
        go_wp2_with fail
        refine (hFm.out _).mono ?_
        rintro e w9 ⟨rfl, hg9⟩
        have hb9 := hb8.pure hg9
        replace hg9 := hg8.t hg9
        clear b0 b1 b2 b3 b4
        rcases h4 : formB d with _ | _
        · have b0 := (hb9.c 0 rfl).1
          have b1 := (hb9.c 1 rfl).1
          have b2 := (hb9.c 2 rfl).1
          have b3 := (hb9.c 3 rfl).1
          have b4 := (hb9.c 4 rfl).1
          simp only [Bool.false_eq_true, if_false]
          go_wp2_with fail
          refine (hUs.out _).mono ?_
          rintro e w10 ⟨rfl, hg10⟩
          have hb10 := hb9.pure hg10
          replace hg10 := hg9.t hg10
          clear b0 b1 b2 b3 b4
          rcases h5 : usedB d with _ | _
          · have HV5 : Hid (F = if LB then 7 else 0) := by
              have e := HV.out
              unfold eformV at e
              rw [h4, h5] at e
              exact e
            clear HV
            have b0 := (hb10.c 0 rfl).1
            simp only [Bool.false_eq_true, if_false]
            go_upto_region 15 with fail
            rcases k with _ | j
            · have e : Hid (F = 0) := by have e := HV5.out; rw [hlate0.out rfl] at e; exact e
              clear HV5 hlate0 hprev
              go_quiet (fail)
              go_wp2
              go_ret
              exact ⟨ret_int e.out.symm, hg10.t (gr_drewN (World.grownBy.refl _ _) _)⟩
            · obtain ⟨v, hv, hL⟩ := hprev.out j rfl
              have hvz := hg10.k hv
              have hp : 0 < j + 1 := by omega
              have hjl : (0 : Int) ≤ (j : Int) ∧ (j : Int) < l.length := by omega
              rcases hlv : decide (d.at_ < v) with _ | _
              · have e : Hid (F = 0) := by have e := HV5.out; rw [hL, hlv] at e; exact e
                clear HV5 hL hlate0 hprev hv
                go_quiet (fail)
                go_wp2
                go_ret
                exact ⟨ret_int e.out.symm, hg10.t (gr_drewN (World.grownBy.refl _ _) _)⟩
              · have e : Hid (F = 7) := by have e := HV5.out; rw [hL, hlv] at e; exact e
                clear HV5 hL hlate0 hprev hv
                go_quiet (fail)
                go_wp2
                go_ret
                exact ⟨ret_int e.out.symm, hg10.t (gr_drewN (World.grownBy.refl _ _) _)⟩
          · have e : Hid (F = 5) := by
              have e := HV.out
              unfold eformV at e
              rw [h4, h5] at e
              exact e
            clear HV
            simp only [if_true]
            go_wp2_with fail
            go_ret
            exact ⟨ret_int e.out.symm, hg10⟩
        · have e : Hid (F = 3) := by
            have e := HV.out
            unfold eformV at e
            rw [h4] at e
            exact e
          clear HV
          simp only [if_true]
          go_wp2_with fail
          go_ret
          exact ⟨ret_int e.out.symm, hg9⟩
    · have e : Hid (F = 4) := by have e := HV.out; rw [h2] at e; exact e
      clear HV
      simp only [Bool.not_true]
      go_wp2_with fail
      go_ret
      exact ⟨ret_int e.out.symm, hg7⟩
  · have e : Hid (F = 1) := by have e := HV.out; rw [h1] at e; exact e
    clear HV
    simp only [Bool.not_true]
    go_wp2_with fail
    go_ret
    exact ⟨ret_int e.out.symm, hg7⟩

/-- what is wrong with printers and events -/
def chkF (p : List Prn) (l : List Ev) : Int := if prnsF p ≠ 0 then prnsF p else ersF p l

set_option maxHeartbeats 4000000 in
set_option maxRecDepth 100000 in
theorem checkEvents_any (P A : Option Addr) (pc c : Nat) (p : List Prn) (l : List Ev) (w : World) (hpl : Sl w 0 P p) (hl : Sl w 0 A l) :
    Calls Tryz.prog 52 #[.slice P p.length pc, .slice A l.length c] w fun e w' => e = .returned (.int .i64 (chkF p l)) ∧ w.grownBy w' none := by
  have hm := hl.1
  unfold maxLen at hm
  have HV : Hid (chkF p l = if prnsF p ≠ 0 then prnsF p else ersF p l) := rfl
  generalize chkF p l = F at *
  have hCP := checkPrinters_any P pc p w hpl
  by_cases h0 : prnsF p = 0
  · have HE : Hid (F = ersF p l) := by
      have e := HV.out
      rw [if_neg (fun h => h h0)] at e
      exact e
    have hEv := hide fun k (hk : k < l.length) wx (h : w.grownBy wx none) => eventFault_any P A pc c p l k hk wx (hpl.pure h) h0 (hl.pure h)
    rw [h0] at hCP
    replace hCP := hide hCP
    clear HV h0
    by_cases h50 : 5000 < l.length
    · have e : Hid (F = 2) := by
        have e := HE.out
        unfold ersF at e
        rw [if_pos h50] at e
        exact e
      have hd : decide ((l.length : Int) > 5000) = true := by simp; omega
      clear HE
      go_enter Tryz.func52, Tryz.ntmps52
      go_wp2_with fail
      refine hCP.out.mono ?_
      rintro e w1 ⟨rfl, hg1⟩
      go_wp2_with fail
      go_ret
      exact ⟨ret_int e.out.symm, hg1⟩
    · have HE2 : Hid (F = scanN (erF p l) l.length) := by
        have e := HE.out
        unfold ersF at e
        rw [if_neg h50] at e
        exact e
      have hd : decide ((l.length : Int) > 5000) = false := by simp; omega
      clear HE
      go_enter Tryz.func52, Tryz.ntmps52
      go_wp2_with fail
      refine hCP.out.mono ?_
      rintro e w1 ⟨rfl, hg1⟩
      go_wp2_with fail
      go_loopw [18] (fun i wr => ∃ k : Nat, k ≤ l.length ∧ i = .int .i64 k ∧ w.grownBy wr none ∧ Hid (scanN (erF p l) k = 0)) (fun i _ => l.length - (intOf i).toNat)
      case atStart => exact ⟨0, Nat.zero_le _, rfl, hg1, rfl⟩
      case round =>
        obtain ⟨k, hk, rfl, hg, hall⟩ := hrel
        by_cases hlt : k < l.length
        · have hE := hide (hEv.out k hlt wr hg)
          have HF : Hid (erF p l k ≠ 0 → F = erF p l k) := fun h => HE2.out.trans (scanN_at hall.out h hlt)
          have HO : Hid (erF p l k = 0 → scanN (erF p l) (k + 1) = 0) := fun h => scanN_ok hall.out h
          generalize erF p l k = V at *
          by_cases hz : V = 0
          · have hR := hide (HO.out hz)
            rw [hz] at hE
            clear HF HO hz
            go_wp2_with fail
            refine hE.out.mono ?_
            rintro e w2 ⟨rfl, hg2⟩
            go_wp2_with fail
            (go_roundw; (case rel => exact ⟨k + 1, by omega, by go_num, hg.t hg2, hR.out⟩); (case measure => simp [intOf]; omega))
          · have hR := hide (HF.out hz)
            have hb : (V == 0) = false := by simp [hz]
            have hb2 : (V != 0) = true := by simp [hz]
            clear HF HO hz
            go_wp2_with fail
            refine hE.out.mono ?_
            rintro e w2 ⟨rfl, hg2⟩
            go_wp2_with fail
            go_ret
            exact ⟨ret_int hR.out.symm, hg.t hg2⟩
        · have hkl : k = l.length := by omega
          have hR : Hid (F = 0) := by rw [Hid, HE2.out, ← hkl]; exact hall.out
          clear hkl hall
          go_wp2_with fail
          go_ret
          exact ⟨ret_int hR.out.symm, hg⟩
  · have HE : Hid (F = prnsF p) := by
      have e := HV.out
      rw [if_pos h0] at e
      exact e
    have hb : (prnsF p != 0) = true := by simp [h0]
    replace hCP := hide hCP
    clear HV h0
    go_enter Tryz.func52, Tryz.ntmps52
    generalize prnsF p = Z at *
    go_wp2_with fail
    refine hCP.out.mono ?_
    rintro e w1 ⟨rfl, hg1⟩
    go_wp2_with fail
    go_ret
    exact ⟨ret_int HE.out.symm, hg1⟩

end Go.Proofs.YtanioobepfllgaaGreatDoor
