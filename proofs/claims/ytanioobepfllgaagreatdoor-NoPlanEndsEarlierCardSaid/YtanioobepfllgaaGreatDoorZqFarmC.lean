/- Contracts of functions that this seat's laws reach, each: what one call returns and what it leaves in memory; no condition beyond each theorem's own hypotheses. -/
import Derived.Test.YtanioobepfllgaaGreatDoorZqFarmA
import Derived.Test.YtanioobepfllgaaGreatDoorZqPathA
import Derived.Test.YtanioobepfllgaaGreatDoorZqGrS
set_option linter.unusedVariables false
set_option linter.unusedSimpArgs false
namespace Go.Proofs.YtanioobepfllgaaGreatDoor
open Go.RowKit Go.Bl

theorem info_prn : (Tryz.prog.info? 46).map (fun i => (i.zero, i.size, i.bytes)) = some (some (.agg #[.string ByteArray.empty, .string ByteArray.empty]), 2, 32) := by kernel_rfl

theorem info_jb : (Tryz.prog.info? 49).map (fun i => (i.zero, i.size, i.bytes)) = some (some (.agg #[.string ByteArray.empty, .string ByteArray.empty, .int .i64 0, .int .i64 0]), 4, 48) := by kernel_rfl

set_option maxHeartbeats 2000000 in
theorem checkPrinters_any (A : Option Addr) (c : Nat) (l : List Prn) (w : World) (hl : Sl w 0 A l) :
    Calls Tryz.prog 60 #[.slice A l.length c] w fun e w' => e = .returned (.int .i64 (prnsF l)) ∧ w.grownBy w' none := by
  have hm := hl.1
  unfold maxLen at hm
  by_cases hz : l.length = 0
  · have HE : Hid (prnsF l = 8) := by simp [Hid, prnsF, hz]
    have hzb : ((l.length : Int) == 0) = true := by simp [hz]
    go_enter Tryz.func60, Tryz.ntmps60
    go_wp2_with fail
    go_ret
    exact ⟨ret_int HE.out.symm, (by repeat (first | exact World.grownBy.refl _ _ | assumption | refine gr_alloc ?_ _ | (apply gr_tail; assumption) | refine gr_drewN ?_ _ | refine gr_drew ?_))⟩
  · by_cases h50 : 50 < l.length
    · have HE : Hid (prnsF l = 2) := by simp [Hid, prnsF, hz, h50]
      have hd : decide ((l.length : Int) > 50) = true := by simp; omega
      go_enter Tryz.func60, Tryz.ntmps60
      go_wp2_with fail
      go_ret
      exact ⟨ret_int HE.out.symm, (by repeat (first | exact World.grownBy.refl _ _ | assumption | refine gr_alloc ?_ _ | (apply gr_tail; assumption) | refine gr_drewN ?_ _ | refine gr_drew ?_))⟩
    · have HE : Hid (prnsF l = scanN (prnF l) l.length) := by simp [Hid, prnsF, hz, h50]
      have hzb : ((l.length : Int) == 0) = false := by rw [beq_eq_false_iff_ne]; omega
      have hd : decide ((l.length : Int) > 50) = false := by simp; omega
      go_enter Tryz.func60, Tryz.ntmps60
      go_wp2_with fail
      go_loopw [13] (fun i wr => ∃ k : Nat, k ≤ l.length ∧ i = .int .i64 k ∧ w.grownBy wr none ∧ Hid (scanN (prnF l) k = 0)) (fun i _ => l.length - (intOf i).toNat)
      case atStart => exact ⟨0, Nat.zero_le _, rfl, World.grownBy.refl _ _, rfl⟩
      case round =>
        obtain ⟨k, hk, rfl, hg, hall⟩ := hrel
        by_cases hlt : k < l.length
        · have hls := hl.gr hg (by simp)
          obtain ⟨g, o, cx, rfl, hb0, hb1, rfl, hc⟩ := hls.at_ (by decide) hlt
          have c0 : wr.cell? ⟨g, o + k * 2, none⟩ = some (.string l[k].key) := hc 0 _ rfl
          have c1 : wr.cell? ⟨g, o + k * 2 + 1, none⟩ = some (.string l[k].mat) := hc 1 _ rfl
          clear hc
          replace hd := hide hd
          go_wp2_with fail
          obtain ⟨w1, hw1⟩ : ∃ x, x = (wr).alloc (.cells [.string l[k].key, .string l[k].mat].toArray 46) := ⟨_, rfl⟩
          have hg1 : (wr).grownBy w1 none := by rw [hw1]; exact gr_alloc (World.grownBy.refl _ _) _
          have hb1 : Box w1 (wr).heap.size 46 [.string l[k].key, .string l[k].mat] := by rw [hw1]; exact Box.new _ _ _
          have hxs1 := hb1.lt
          rw [← hw1]
          clear hw1
          obtain ⟨x1, hx1⟩ : ∃ x, x = (wr).heap.size := ⟨_, rfl⟩
          rw [← hx1] at hb1 hxs1 ⊢
          have hxl1 : (wr).heap.size ≤ x1 := by omega
          clear hx1
          have HF : Hid (prnF l k ≠ 0 → prnsF l = prnF l k) := fun h => HE.out.trans (scanN_at hall.out h hlt)
          have HO : Hid (prnF l k = 0 → scanN (prnF l) (k + 1) = 0) := fun h => scanN_ok hall.out h
          have HV : Hid (prnF l k = if keyB l[k].key && keyB l[k].mat then (if decide (0 < k) && leS l[k].key (l.getD (k - 1) default).key then 7 else 0) else 5) := by
            simp only [Hid, prnF, List.getD_eq_getElem?_getD, List.getElem?_eq_getElem hlt, Option.getD_some]
          clear c0 c1
          refine (isKey_any _ _).mono ?_
          rintro e w2 ⟨rfl, hg2⟩
          have b0 := ((hb1.pure hg2).c 0 rfl).1
          have b1 := ((hb1.pure hg2).c 1 rfl).1
          rcases h1 : keyB l[k].key with _ | _
          · go_wp2_with fail
            go_ret
            exact ⟨ret_int (by have e := HV.out; rw [h1] at e; simp only [Bool.false_and, Bool.false_eq_true, if_false] at e; rw [HF.out (by rw [e]; decide), e]), (by repeat (first | exact World.grownBy.refl _ _ | assumption | refine gr_alloc ?_ _ | (apply gr_tail; assumption) | refine gr_drewN ?_ _ | refine gr_drew ?_))⟩
          · go_wp2_with fail
            refine (isKey_any _ _).mono ?_
            rintro e w3 ⟨rfl, hg3⟩
            rcases h2 : keyB l[k].mat with _ | _
            · go_wp2_with fail
              go_ret
              exact ⟨ret_int (by have e := HV.out; rw [h1, h2] at e; simp only [Bool.and_false, Bool.false_eq_true, if_false] at e; rw [HF.out (by rw [e]; decide), e]), (by repeat (first | exact World.grownBy.refl _ _ | assumption | refine gr_alloc ?_ _ | (apply gr_tail; assumption) | refine gr_drewN ?_ _ | refine gr_drew ?_))⟩
            · clear b0 b1
              have b0 := ((hb1.pure (hg2.t hg3)).c 0 rfl).1
              go_wp2_with fail
              rcases k with _ | m
              · go_quiet (fail)
                go_wp2
                have e := HV.out
                simp only [h1, h2, Bool.and_self, if_true, Nat.lt_irrefl, decide_false, Bool.false_and, Bool.false_eq_true, if_false] at e
                (go_roundw; (case rel => exact ⟨1, by omega, by go_num, gr_drewN (hg.t (hg1.t (hg2.t hg3))) _, HO.out e⟩); (case measure => simp [intOf]; omega))
              · have hp : 0 < m + 1 := by omega
                have hgw : w.grownBy w3 none := hg.t (hg1.t (hg2.t hg3))
                obtain ⟨g', o', cx, e, _, _, rfl, hc⟩ := (hl.gr hgw (by simp)).at_ (by decide) (show m < l.length by omega)
                cases e
                have c0 : w3.cell? ⟨g, o + m * 2, none⟩ = some (.string l[m].key) := hc 0 _ rfl
                clear hc
                have e := HV.out
                simp only [h1, h2, Bool.and_self, if_true, hp, decide_true, Bool.true_and, Nat.add_sub_cancel, List.getD_eq_getElem?_getD, List.getElem?_eq_getElem (show m < l.length by omega), Option.getD_some] at e
                replace e := hide e
                replace HV := HV.out
                clear HV
                rcases hq : leS l[m + 1].key l[m].key with _ | _
                · have hq2 : (Op.bytesLess l[m + 1].key.toList l[m].key.toList || (l[m + 1].key.toList == l[m].key.toList)) = false := hq
                  replace hq := hide hq
                  go_quiet (fail)
                  go_wp2
                  (go_roundw; (case rel => exact ⟨m + 2, by omega, by go_num, gr_drewN (hg.t (hg1.t (hg2.t hg3))) _, HO.out (e.out.trans (by rw [hq.out]; rfl))⟩); (case measure => simp [intOf]; omega))
                · have hq2 : (Op.bytesLess l[m + 1].key.toList l[m].key.toList || (l[m + 1].key.toList == l[m].key.toList)) = true := hq
                  replace hq := hide hq
                  go_quiet (fail)
                  go_wp2_with fail
                  go_ret
                  exact ⟨ret_int (by have e2 := e.out; rw [hq.out, if_pos rfl] at e2; rw [HF.out (by rw [e2]; decide), e2]), gr_drewN (hg.t (hg1.t (hg2.t hg3))) _⟩
        · have HB : Hid (prnsF l = 0) := by
            have : k = l.length := by omega
            subst this
            exact HE.out.trans hall.out
          replace hd := hide hd
          go_wp2_with fail
          go_ret
          exact ⟨ret_int HB.out.symm, hg⟩

set_option maxHeartbeats 2000000 in
theorem printersFault_any (A : Option Addr) (c : Nat) (l : List Prn) (w : World) (hl : Sl w 0 A l) :
    Calls Tryz.prog 30 #[.slice A l.length c] w fun e w' => e = .returned (.int .i64 (prnsF l)) ∧ w.grownBy w' none := by
  have hm := hl.1
  unfold maxLen at hm
  by_cases hz : l.length = 0
  · have HE : Hid (prnsF l = 8) := by simp [Hid, prnsF, hz]
    have hzb : ((l.length : Int) == 0) = true := by simp [hz]
    go_enter Tryz.func30, Tryz.ntmps30
    go_wp2_with fail
    go_ret
    exact ⟨ret_int HE.out.symm, (by repeat (first | exact World.grownBy.refl _ _ | assumption | refine gr_alloc ?_ _ | (apply gr_tail; assumption) | refine gr_drewN ?_ _ | refine gr_drew ?_))⟩
  · by_cases h50 : 50 < l.length
    · have HE : Hid (prnsF l = 2) := by simp [Hid, prnsF, hz, h50]
      have hd : decide ((l.length : Int) > 50) = true := by simp; omega
      go_enter Tryz.func30, Tryz.ntmps30
      go_wp2_with fail
      go_ret
      exact ⟨ret_int HE.out.symm, (by repeat (first | exact World.grownBy.refl _ _ | assumption | refine gr_alloc ?_ _ | (apply gr_tail; assumption) | refine gr_drewN ?_ _ | refine gr_drew ?_))⟩
    · have HE : Hid (prnsF l = scanN (prnF l) l.length) := by simp [Hid, prnsF, hz, h50]
      have hzb : ((l.length : Int) == 0) = false := by rw [beq_eq_false_iff_ne]; omega
      have hd : decide ((l.length : Int) > 50) = false := by simp; omega
      go_enter Tryz.func30, Tryz.ntmps30
      go_wp2_with fail
      go_loopw [15] (fun i wr => ∃ k : Nat, k ≤ l.length ∧ i = .int .i64 k ∧ w.grownBy wr none ∧ Hid (scanN (prnF l) k = 0)) (fun i _ => l.length - (intOf i).toNat)
      case atStart => exact ⟨0, Nat.zero_le _, rfl, World.grownBy.refl _ _, rfl⟩
      case round =>
        obtain ⟨k, hk, rfl, hg, hall⟩ := hrel
        by_cases hlt : k < l.length
        · have hls := hl.gr hg (by simp)
          obtain ⟨g, o, cx, rfl, hb0, hb1, rfl, hc⟩ := hls.at_ (by decide) hlt
          have c0 : wr.cell? ⟨g, o + k * 2, none⟩ = some (.string l[k].key) := hc 0 _ rfl
          have c1 : wr.cell? ⟨g, o + k * 2 + 1, none⟩ = some (.string l[k].mat) := hc 1 _ rfl
          clear hc
          replace hd := hide hd
          go_wp2_with fail
          obtain ⟨w1, hw1⟩ : ∃ x, x = (wr).alloc (.cells [.string l[k].key, .string l[k].mat].toArray 46) := ⟨_, rfl⟩
          have hg1 : (wr).grownBy w1 none := by rw [hw1]; exact gr_alloc (World.grownBy.refl _ _) _
          have hb1 : Box w1 (wr).heap.size 46 [.string l[k].key, .string l[k].mat] := by rw [hw1]; exact Box.new _ _ _
          have hxs1 := hb1.lt
          rw [← hw1]
          clear hw1
          obtain ⟨x1, hx1⟩ : ∃ x, x = (wr).heap.size := ⟨_, rfl⟩
          rw [← hx1] at hb1 hxs1 ⊢
          have hxl1 : (wr).heap.size ≤ x1 := by omega
          clear hx1
          have HF : Hid (prnF l k ≠ 0 → prnsF l = prnF l k) := fun h => HE.out.trans (scanN_at hall.out h hlt)
          have HO : Hid (prnF l k = 0 → scanN (prnF l) (k + 1) = 0) := fun h => scanN_ok hall.out h
          have HV : Hid (prnF l k = if keyB l[k].key && keyB l[k].mat then (if decide (0 < k) && leS l[k].key (l.getD (k - 1) default).key then 7 else 0) else 5) := by
            simp only [Hid, prnF, List.getD_eq_getElem?_getD, List.getElem?_eq_getElem hlt, Option.getD_some]
          clear c0 c1
          refine (key_any _ _).mono ?_
          rintro e w2 ⟨rfl, hg2⟩
          have b0 := ((hb1.pure hg2).c 0 rfl).1
          have b1 := ((hb1.pure hg2).c 1 rfl).1
          rcases h1 : keyB l[k].key with _ | _
          · go_wp2_with fail
            go_ret
            exact ⟨ret_int (by have e := HV.out; rw [h1] at e; simp only [Bool.false_and, Bool.false_eq_true, if_false] at e; rw [HF.out (by rw [e]; decide), e]), (by repeat (first | exact World.grownBy.refl _ _ | assumption | refine gr_alloc ?_ _ | (apply gr_tail; assumption) | refine gr_drewN ?_ _ | refine gr_drew ?_))⟩
          · go_wp2_with fail
            refine (key_any _ _).mono ?_
            rintro e w3 ⟨rfl, hg3⟩
            rcases h2 : keyB l[k].mat with _ | _
            · go_wp2_with fail
              go_ret
              exact ⟨ret_int (by have e := HV.out; rw [h1, h2] at e; simp only [Bool.and_false, Bool.false_eq_true, if_false] at e; rw [HF.out (by rw [e]; decide), e]), (by repeat (first | exact World.grownBy.refl _ _ | assumption | refine gr_alloc ?_ _ | (apply gr_tail; assumption) | refine gr_drewN ?_ _ | refine gr_drew ?_))⟩
            · clear b0 b1
              have b0 := ((hb1.pure (hg2.t hg3)).c 0 rfl).1
              go_wp2_with fail
              rcases k with _ | m
              · go_quiet (fail)
                go_wp2
                have e := HV.out
                simp only [h1, h2, Bool.and_self, if_true, Nat.lt_irrefl, decide_false, Bool.false_and, Bool.false_eq_true, if_false] at e
                (go_roundw; (case rel => exact ⟨1, by omega, by go_num, gr_drewN (hg.t (hg1.t (hg2.t hg3))) _, HO.out e⟩); (case measure => simp [intOf]; omega))
              · have hp : 0 < m + 1 := by omega
                have hgw : w.grownBy w3 none := hg.t (hg1.t (hg2.t hg3))
                obtain ⟨g', o', cx, e, _, _, rfl, hc⟩ := (hl.gr hgw (by simp)).at_ (by decide) (show m < l.length by omega)
                cases e
                have c0 : w3.cell? ⟨g, o + m * 2, none⟩ = some (.string l[m].key) := hc 0 _ rfl
                clear hc
                have e := HV.out
                simp only [h1, h2, Bool.and_self, if_true, hp, decide_true, Bool.true_and, Nat.add_sub_cancel, List.getD_eq_getElem?_getD, List.getElem?_eq_getElem (show m < l.length by omega), Option.getD_some] at e
                replace e := hide e
                replace HV := HV.out
                clear HV
                rcases hq : leS l[m + 1].key l[m].key with _ | _
                · have hq2 : (Op.bytesLess l[m + 1].key.toList l[m].key.toList || (l[m + 1].key.toList == l[m].key.toList)) = false := hq
                  replace hq := hide hq
                  go_quiet (fail)
                  go_wp2
                  (go_roundw; (case rel => exact ⟨m + 2, by omega, by go_num, gr_drewN (hg.t (hg1.t (hg2.t hg3))) _, HO.out (e.out.trans (by rw [hq.out]; rfl))⟩); (case measure => simp [intOf]; omega))
                · have hq2 : (Op.bytesLess l[m + 1].key.toList l[m].key.toList || (l[m + 1].key.toList == l[m].key.toList)) = true := hq
                  replace hq := hide hq
                  go_quiet (fail)
                  go_wp2_with fail
                  go_ret
                  exact ⟨ret_int (by have e2 := e.out; rw [hq.out, if_pos rfl] at e2; rw [HF.out (by rw [e2]; decide), e2]), gr_drewN (hg.t (hg1.t (hg2.t hg3))) _⟩
        · have HB : Hid (prnsF l = 0) := by
            have : k = l.length := by omega
            subst this
            exact HE.out.trans hall.out
          replace hd := hide hd
          go_wp2_with fail
          go_ret
          exact ⟨ret_int HB.out.symm, hg⟩

end Go.Proofs.YtanioobepfllgaaGreatDoor

namespace Go.Proofs.YtanioobepfllgaaGreatDoor
open Go.RowKit Go.Bl

theorem in_out (n a b : Int) : inB n a b = !outB n a b := by
  unfold inB outB; by_cases h1 : a ≤ n <;> by_cases h2 : n ≤ b <;> simp [h1, h2] <;> omega

set_option maxHeartbeats 4000000 in
theorem checkJobs_any (A : Option Addr) (c : Nat) (l : List Jb) (w : World) (hl : Sl w 0 A l) :
    Calls Tryz.prog 61 #[.slice A l.length c] w fun e w' => e = .returned (.int .i64 (jbsF l)) ∧ w.grownBy w' none := by
  have hm := hl.1
  unfold maxLen at hm
  by_cases h50 : 500 < l.length
  · have HE : Hid (jbsF l = 2) := by simp [Hid, jbsF, h50]
    have hd : decide ((l.length : Int) > 500) = true := by simp; omega
    go_enter Tryz.func61, Tryz.ntmps61
    go_wp2_with fail
    go_ret
    exact ⟨ret_int HE.out.symm, (by repeat (first | exact World.grownBy.refl _ _ | assumption | refine gr_alloc ?_ _ | (apply gr_tail; assumption) | refine gr_drewN ?_ _ | refine gr_drew ?_))⟩
  · have HE : Hid (jbsF l = scanN (jbF l) l.length) := by simp [Hid, jbsF, h50]
    have hd : decide ((l.length : Int) > 500) = false := by simp; omega
    go_enter Tryz.func61, Tryz.ntmps61
    go_wp2_with fail
    go_loopw [10] (fun i wr => ∃ k : Nat, k ≤ l.length ∧ i = .int .i64 k ∧ w.grownBy wr none ∧ Hid (scanN (jbF l) k = 0)) (fun i _ => l.length - (intOf i).toNat)
    case atStart => exact ⟨0, Nat.zero_le _, rfl, World.grownBy.refl _ _, rfl⟩
    case round =>
      obtain ⟨k, hk, rfl, hg, hall⟩ := hrel
      by_cases hlt : k < l.length
      · have hls := hl.gr hg (by simp)
        obtain ⟨g, o, cx, rfl, hb0, hb1, rfl, hc⟩ := hls.at_ (by decide) hlt
        have c0 : wr.cell? ⟨g, o + k * 4, none⟩ = some (.string l[k].key) := hc 0 _ rfl
        have c1 : wr.cell? ⟨g, o + k * 4 + 1, none⟩ = some (.string l[k].mat) := hc 1 _ rfl
        have c2 : wr.cell? ⟨g, o + k * 4 + 2, none⟩ = some (.int .i64 l[k].min) := hc 2 _ rfl
        have c3 : wr.cell? ⟨g, o + k * 4 + 3, none⟩ = some (.int .i64 l[k].due) := hc 3 _ rfl
        clear hc
        replace hd := hide hd
        go_wp2_with fail
        obtain ⟨w1, hw1⟩ : ∃ x, x = (wr).alloc (.cells [.string l[k].key, .string l[k].mat, .int .i64 l[k].min, .int .i64 l[k].due].toArray 49) := ⟨_, rfl⟩
        have hg1 : (wr).grownBy w1 none := by rw [hw1]; exact gr_alloc (World.grownBy.refl _ _) _
        have hb1 : Box w1 (wr).heap.size 49 [.string l[k].key, .string l[k].mat, .int .i64 l[k].min, .int .i64 l[k].due] := by rw [hw1]; exact Box.new _ _ _
        have hxs1 := hb1.lt
        rw [← hw1]
        clear hw1
        obtain ⟨x1, hx1⟩ : ∃ x, x = (wr).heap.size := ⟨_, rfl⟩
        rw [← hx1] at hb1 hxs1 ⊢
        have hxl1 : (wr).heap.size ≤ x1 := by omega
        clear hx1
        have HF : Hid (jbF l k ≠ 0 → jbsF l = jbF l k) := fun h => HE.out.trans (scanN_at hall.out h hlt)
        have HO : Hid (jbF l k = 0 → scanN (jbF l) (k + 1) = 0) := fun h => scanN_ok hall.out h
        have HV : Hid (jbF l k = if keyB l[k].key && keyB l[k].mat then (if outB l[k].min 1 100000 || outB l[k].due 0 1000000000 then 1 else if decide (0 < k) && leS l[k].key (l.getD (k - 1) default).key then 7 else 0) else 5) := by
          simp only [Hid, jbF, List.getD_eq_getElem?_getD, List.getElem?_eq_getElem hlt, Option.getD_some]
        clear c0 c1 c2 c3
        refine (isKey_any _ _).mono ?_
        rintro e w2 ⟨rfl, hg2⟩
        have b1 := ((hb1.pure hg2).c 1 rfl).1
        rcases h1 : keyB l[k].key with _ | _
        · go_wp2_with fail
          go_ret
          exact ⟨ret_int (by have e := HV.out; rw [h1] at e; simp only [Bool.false_and, Bool.false_eq_true, if_false] at e; rw [HF.out (by rw [e]; decide), e]), (by repeat (first | exact World.grownBy.refl _ _ | assumption | refine gr_alloc ?_ _ | (apply gr_tail; assumption) | refine gr_drewN ?_ _ | refine gr_drew ?_))⟩
        · go_wp2_with fail
          refine (isKey_any _ _).mono ?_
          rintro e w3 ⟨rfl, hg3⟩
          rcases h2 : keyB l[k].mat with _ | _
          · go_wp2_with fail
            go_ret
            exact ⟨ret_int (by have e := HV.out; rw [h1, h2] at e; simp only [Bool.and_false, Bool.false_eq_true, if_false] at e; rw [HF.out (by rw [e]; decide), e]), (by repeat (first | exact World.grownBy.refl _ _ | assumption | refine gr_alloc ?_ _ | (apply gr_tail; assumption) | refine gr_drewN ?_ _ | refine gr_drew ?_))⟩
          · clear b1
            have hb3 := hb1.pure (hg2.t hg3)
            have b0 := (hb3.c 0 rfl).1
            have b2 := (hb3.c 2 rfl).1
            have b3 := (hb3.c 3 rfl).1
            have HV2 : Hid (jbF l k = (if outB l[k].min 1 100000 || outB l[k].due 0 1000000000 then 1 else if decide (0 < k) && leS l[k].key (l.getD (k - 1) default).key then 7 else 0)) := by
              have e := HV.out; rw [h1, h2] at e; exact e
            replace h1 := hide h1
            replace h2 := hide h2
            clear HV
            rcases h3 : outB l[k].min 1 100000 with _ | _
            · rcases h4 : outB l[k].due 0 1000000000 with _ | _
              · have HV3 : Hid (jbF l k = (if decide (0 < k) && leS l[k].key (l.getD (k - 1) default).key then 7 else 0)) := by
                  have e := HV2.out; rw [h3, h4] at e; exact e
                clear HV2
                go_wp2_with (go_at_call 62; refine (outside_any _ _ _ _).mono ?_; rintro _ _ ⟨rfl, rfl⟩)
                rcases k with _ | m
                · go_quiet (fail)
                  go_wp2
                  have e := HV3.out
                  simp only [Nat.lt_irrefl, decide_false, Bool.false_and, Bool.false_eq_true, if_false] at e
                  (go_roundw; (case rel => exact ⟨1, by omega, by go_num, gr_drewN (hg.t (hg1.t (hg2.t hg3))) _, HO.out e⟩); (case measure => simp [intOf]; omega))
                · have hp : 0 < m + 1 := by omega
                  have hgw : w.grownBy w3 none := hg.t (hg1.t (hg2.t hg3))
                  obtain ⟨g', o', cx, e, _, _, rfl, hc⟩ := (hl.gr hgw (by simp)).at_ (by decide) (show m < l.length by omega)
                  cases e
                  have c0 : w3.cell? ⟨g, o + m * 4, none⟩ = some (.string l[m].key) := hc 0 _ rfl
                  clear hc
                  have e := HV3.out
                  simp only [hp, decide_true, Bool.true_and, Nat.add_sub_cancel, List.getD_eq_getElem?_getD, List.getElem?_eq_getElem (show m < l.length by omega), Option.getD_some] at e
                  replace e := hide e
                  clear HV3
                  rcases hq : leS l[m + 1].key l[m].key with _ | _
                  · have hq2 : (Op.bytesLess l[m + 1].key.toList l[m].key.toList || (l[m + 1].key.toList == l[m].key.toList)) = false := hq
                    replace hq := hide hq
                    go_quiet (fail)
                    go_wp2
                    (go_roundw; (case rel => exact ⟨m + 2, by omega, by go_num, gr_drewN (hg.t (hg1.t (hg2.t hg3))) _, HO.out (e.out.trans (by rw [hq.out]; rfl))⟩); (case measure => simp [intOf]; omega))
                  · have hq2 : (Op.bytesLess l[m + 1].key.toList l[m].key.toList || (l[m + 1].key.toList == l[m].key.toList)) = true := hq
                    replace hq := hide hq
                    go_quiet (fail)
                    go_wp2_with fail
                    go_ret
                    exact ⟨ret_int (by have e2 := e.out; rw [hq.out, if_pos rfl] at e2; rw [HF.out (by rw [e2]; decide), e2]), gr_drewN (hg.t (hg1.t (hg2.t hg3))) _⟩
              · go_wp2_with (go_at_call 62; refine (outside_any _ _ _ _).mono ?_; rintro _ _ ⟨rfl, rfl⟩)
                go_ret
                exact ⟨ret_int (by have e := HV2.out; rw [h3, h4] at e; simp only [Bool.or_true, if_true] at e; rw [HF.out (by rw [e]; decide), e]), (by repeat (first | exact World.grownBy.refl _ _ | assumption | refine gr_alloc ?_ _ | (apply gr_tail; assumption) | refine gr_drewN ?_ _ | refine gr_drew ?_))⟩
            · go_wp2_with (go_at_call 62; refine (outside_any _ _ _ _).mono ?_; rintro _ _ ⟨rfl, rfl⟩)
              go_ret
              exact ⟨ret_int (by have e := HV2.out; rw [h3] at e; simp only [Bool.true_or, if_true] at e; rw [HF.out (by rw [e]; decide), e]), (by repeat (first | exact World.grownBy.refl _ _ | assumption | refine gr_alloc ?_ _ | (apply gr_tail; assumption) | refine gr_drewN ?_ _ | refine gr_drew ?_))⟩
      · have HB : Hid (jbsF l = 0) := by
          have : k = l.length := by omega
          subst this
          exact HE.out.trans hall.out
        replace hd := hide hd
        go_wp2_with fail
        go_ret
        exact ⟨ret_int HB.out.symm, hg⟩

set_option maxHeartbeats 4000000 in
theorem jobsFault_any (A : Option Addr) (c : Nat) (l : List Jb) (w : World) (hl : Sl w 0 A l) :
    Calls Tryz.prog 32 #[.slice A l.length c] w fun e w' => e = .returned (.int .i64 (jbsF l)) ∧ w.grownBy w' none := by
  have hm := hl.1
  unfold maxLen at hm
  by_cases h50 : 500 < l.length
  · have HE : Hid (jbsF l = 2) := by simp [Hid, jbsF, h50]
    have hd : decide ((l.length : Int) > 500) = true := by simp; omega
    go_enter Tryz.func32, Tryz.ntmps32
    go_wp2_with fail
    go_ret
    exact ⟨ret_int HE.out.symm, (by repeat (first | exact World.grownBy.refl _ _ | assumption | refine gr_alloc ?_ _ | (apply gr_tail; assumption) | refine gr_drewN ?_ _ | refine gr_drew ?_))⟩
  · have HE : Hid (jbsF l = scanN (jbF l) l.length) := by simp [Hid, jbsF, h50]
    have hd : decide ((l.length : Int) > 500) = false := by simp; omega
    go_enter Tryz.func32, Tryz.ntmps32
    go_wp2_with fail
    go_loopw [10] (fun i wr => ∃ k : Nat, k ≤ l.length ∧ i = .int .i64 k ∧ w.grownBy wr none ∧ Hid (scanN (jbF l) k = 0)) (fun i _ => l.length - (intOf i).toNat)
    case atStart => exact ⟨0, Nat.zero_le _, rfl, World.grownBy.refl _ _, rfl⟩
    case round =>
      obtain ⟨k, hk, rfl, hg, hall⟩ := hrel
      by_cases hlt : k < l.length
      · have hls := hl.gr hg (by simp)
        obtain ⟨g, o, cx, rfl, hb0, hb1, rfl, hc⟩ := hls.at_ (by decide) hlt
        have c0 : wr.cell? ⟨g, o + k * 4, none⟩ = some (.string l[k].key) := hc 0 _ rfl
        have c1 : wr.cell? ⟨g, o + k * 4 + 1, none⟩ = some (.string l[k].mat) := hc 1 _ rfl
        have c2 : wr.cell? ⟨g, o + k * 4 + 2, none⟩ = some (.int .i64 l[k].min) := hc 2 _ rfl
        have c3 : wr.cell? ⟨g, o + k * 4 + 3, none⟩ = some (.int .i64 l[k].due) := hc 3 _ rfl
        clear hc
        replace hd := hide hd
        go_wp2_with fail
        obtain ⟨w1, hw1⟩ : ∃ x, x = (wr).alloc (.cells [.string l[k].key, .string l[k].mat, .int .i64 l[k].min, .int .i64 l[k].due].toArray 49) := ⟨_, rfl⟩
        have hg1 : (wr).grownBy w1 none := by rw [hw1]; exact gr_alloc (World.grownBy.refl _ _) _
        have hb1 : Box w1 (wr).heap.size 49 [.string l[k].key, .string l[k].mat, .int .i64 l[k].min, .int .i64 l[k].due] := by rw [hw1]; exact Box.new _ _ _
        have hxs1 := hb1.lt
        rw [← hw1]
        clear hw1
        obtain ⟨x1, hx1⟩ : ∃ x, x = (wr).heap.size := ⟨_, rfl⟩
        rw [← hx1] at hb1 hxs1 ⊢
        have hxl1 : (wr).heap.size ≤ x1 := by omega
        clear hx1
        have HF : Hid (jbF l k ≠ 0 → jbsF l = jbF l k) := fun h => HE.out.trans (scanN_at hall.out h hlt)
        have HO : Hid (jbF l k = 0 → scanN (jbF l) (k + 1) = 0) := fun h => scanN_ok hall.out h
        have HV : Hid (jbF l k = if keyB l[k].key && keyB l[k].mat then (if outB l[k].min 1 100000 || outB l[k].due 0 1000000000 then 1 else if decide (0 < k) && leS l[k].key (l.getD (k - 1) default).key then 7 else 0) else 5) := by
          simp only [Hid, jbF, List.getD_eq_getElem?_getD, List.getElem?_eq_getElem hlt, Option.getD_some]
        clear c0 c1 c2 c3
        refine (key_any _ _).mono ?_
        rintro e w2 ⟨rfl, hg2⟩
        have b1 := ((hb1.pure hg2).c 1 rfl).1
        rcases h1 : keyB l[k].key with _ | _
        · go_wp2_with fail
          go_ret
          exact ⟨ret_int (by have e := HV.out; rw [h1] at e; simp only [Bool.false_and, Bool.false_eq_true, if_false] at e; rw [HF.out (by rw [e]; decide), e]), (by repeat (first | exact World.grownBy.refl _ _ | assumption | refine gr_alloc ?_ _ | (apply gr_tail; assumption) | refine gr_drewN ?_ _ | refine gr_drew ?_))⟩
        · go_wp2_with fail
          refine (key_any _ _).mono ?_
          rintro e w3 ⟨rfl, hg3⟩
          rcases h2 : keyB l[k].mat with _ | _
          · go_wp2_with fail
            go_ret
            exact ⟨ret_int (by have e := HV.out; rw [h1, h2] at e; simp only [Bool.and_false, Bool.false_eq_true, if_false] at e; rw [HF.out (by rw [e]; decide), e]), (by repeat (first | exact World.grownBy.refl _ _ | assumption | refine gr_alloc ?_ _ | (apply gr_tail; assumption) | refine gr_drewN ?_ _ | refine gr_drew ?_))⟩
          · clear b1
            have hb3 := hb1.pure (hg2.t hg3)
            have b0 := (hb3.c 0 rfl).1
            have b2 := (hb3.c 2 rfl).1
            have b3 := (hb3.c 3 rfl).1
            have HV2 : Hid (jbF l k = (if outB l[k].min 1 100000 || outB l[k].due 0 1000000000 then 1 else if decide (0 < k) && leS l[k].key (l.getD (k - 1) default).key then 7 else 0)) := by
              have e := HV.out; rw [h1, h2] at e; exact e
            replace h1 := hide h1
            replace h2 := hide h2
            clear HV
            rcases h3 : outB l[k].min 1 100000 with _ | _
            · rcases h4 : outB l[k].due 0 1000000000 with _ | _
              · have HV3 : Hid (jbF l k = (if decide (0 < k) && leS l[k].key (l.getD (k - 1) default).key then 7 else 0)) := by
                  have e := HV2.out; rw [h3, h4] at e; exact e
                clear HV2
                go_wp2_with (go_at_call 45; refine (in_any _ _ _ _).mono ?_; rintro _ _ ⟨rfl, rfl⟩; rw [in_out])
                rcases k with _ | m
                · go_quiet (fail)
                  go_wp2
                  have e := HV3.out
                  simp only [Nat.lt_irrefl, decide_false, Bool.false_and, Bool.false_eq_true, if_false] at e
                  (go_roundw; (case rel => exact ⟨1, by omega, by go_num, gr_drewN (hg.t (hg1.t (hg2.t hg3))) _, HO.out e⟩); (case measure => simp [intOf]; omega))
                · have hp : 0 < m + 1 := by omega
                  have hgw : w.grownBy w3 none := hg.t (hg1.t (hg2.t hg3))
                  obtain ⟨g', o', cx, e, _, _, rfl, hc⟩ := (hl.gr hgw (by simp)).at_ (by decide) (show m < l.length by omega)
                  cases e
                  have c0 : w3.cell? ⟨g, o + m * 4, none⟩ = some (.string l[m].key) := hc 0 _ rfl
                  clear hc
                  have e := HV3.out
                  simp only [hp, decide_true, Bool.true_and, Nat.add_sub_cancel, List.getD_eq_getElem?_getD, List.getElem?_eq_getElem (show m < l.length by omega), Option.getD_some] at e
                  replace e := hide e
                  clear HV3
                  rcases hq : leS l[m + 1].key l[m].key with _ | _
                  · have hq2 : (Op.bytesLess l[m + 1].key.toList l[m].key.toList || (l[m + 1].key.toList == l[m].key.toList)) = false := hq
                    replace hq := hide hq
                    go_quiet (fail)
                    go_wp2
                    (go_roundw; (case rel => exact ⟨m + 2, by omega, by go_num, gr_drewN (hg.t (hg1.t (hg2.t hg3))) _, HO.out (e.out.trans (by rw [hq.out]; rfl))⟩); (case measure => simp [intOf]; omega))
                  · have hq2 : (Op.bytesLess l[m + 1].key.toList l[m].key.toList || (l[m + 1].key.toList == l[m].key.toList)) = true := hq
                    replace hq := hide hq
                    go_quiet (fail)
                    go_wp2_with fail
                    go_ret
                    exact ⟨ret_int (by have e2 := e.out; rw [hq.out, if_pos rfl] at e2; rw [HF.out (by rw [e2]; decide), e2]), gr_drewN (hg.t (hg1.t (hg2.t hg3))) _⟩
              · go_wp2_with (go_at_call 45; refine (in_any _ _ _ _).mono ?_; rintro _ _ ⟨rfl, rfl⟩; rw [in_out])
                go_ret
                exact ⟨ret_int (by have e := HV2.out; rw [h3, h4] at e; simp only [Bool.or_true, if_true] at e; rw [HF.out (by rw [e]; decide), e]), (by repeat (first | exact World.grownBy.refl _ _ | assumption | refine gr_alloc ?_ _ | (apply gr_tail; assumption) | refine gr_drewN ?_ _ | refine gr_drew ?_))⟩
            · go_wp2_with (go_at_call 45; refine (in_any _ _ _ _).mono ?_; rintro _ _ ⟨rfl, rfl⟩; rw [in_out])
              go_ret
              exact ⟨ret_int (by have e := HV2.out; rw [h3] at e; simp only [Bool.true_or, if_true] at e; rw [HF.out (by rw [e]; decide), e]), (by repeat (first | exact World.grownBy.refl _ _ | assumption | refine gr_alloc ?_ _ | (apply gr_tail; assumption) | refine gr_drewN ?_ _ | refine gr_drew ?_))⟩
      · have HB : Hid (jbsF l = 0) := by
          have : k = l.length := by omega
          subst this
          exact HE.out.trans hall.out
        replace hd := hide hd
        go_wp2_with fail
        go_ret
        exact ⟨ret_int HB.out.symm, hg⟩

end Go.Proofs.YtanioobepfllgaaGreatDoor
