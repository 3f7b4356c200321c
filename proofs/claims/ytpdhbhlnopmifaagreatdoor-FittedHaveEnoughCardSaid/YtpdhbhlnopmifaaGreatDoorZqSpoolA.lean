/- Contracts of functions that this seat's laws reach, each: what one call returns and what it leaves in memory; no condition beyond each theorem's own hypotheses. -/
import Derived.Test.YtpdhbhlnopmifaaGreatDoorZqFarmK
import Derived.Test.YtpdhbhlnopmifaaGreatDoorZqSpoolData
set_option linter.unusedVariables false
set_option linter.unusedSimpArgs false
namespace Go.Proofs.YtpdhbhlnopmifaaGreatDoor
open Go.RowKit Go.Bl

theorem in_outS (n a b : Int) : inB n a b = !outB n a b := by
  unfold inB outB; by_cases h1 : a ≤ n <;> by_cases h2 : n ≤ b <;> simp [h1, h2] <;> omega

set_option maxHeartbeats 4000000 in
theorem checkSpools_any (A : Option Addr) (c : Nat) (l : List Spl) (w : World) (hl : Sl w 0 A l) :
    Calls Tryz.prog 64 #[.slice A l.length c] w fun e w' => e = .returned (.int .i64 (splsF l)) ∧ w.grownBy w' none := by
  have hm := hl.1
  unfold maxLen at hm
  by_cases h50 : 50 < l.length
  · have HE : Hid (splsF l = 2) := by simp [Hid, splsF, h50]
    have hd : decide ((l.length : Int) > 50) = true := by simp; omega
    go_enter Tryz.func64, Tryz.ntmps64
    go_wp2_with fail
    go_ret
    exact ⟨ret_int HE.out.symm, (by repeat (first | exact World.grownBy.refl _ _ | assumption | refine gr_alloc ?_ _ | (apply gr_tail; assumption) | refine gr_drewN ?_ _ | refine gr_drew ?_))⟩
  · have HE : Hid (splsF l = scanN (splF l) l.length) := by simp [Hid, splsF, h50]
    have hd : decide ((l.length : Int) > 50) = false := by simp; omega
    go_enter Tryz.func64, Tryz.ntmps64
    go_wp2_with fail
    go_loopw [10] (fun i wr => ∃ k : Nat, k ≤ l.length ∧ i = .int .i64 k ∧ w.grownBy wr none ∧ Hid (scanN (splF l) k = 0)) (fun i _ => l.length - (intOf i).toNat)
    case atStart => exact ⟨0, Nat.zero_le _, rfl, World.grownBy.refl _ _, rfl⟩
    case round =>
      obtain ⟨k, hk, rfl, hg, hall⟩ := hrel
      by_cases hlt : k < l.length
      · have hls := hl.gr hg (by simp)
        obtain ⟨g, o, cx, rfl, hb0, hb1, rfl, hc⟩ := hls.at_ (by decide) hlt
        have c0 : wr.cell? ⟨g, o + k * 3, none⟩ = some (.string l[k].key) := hc 0 _ rfl
        have c1 : wr.cell? ⟨g, o + k * 3 + 1, none⟩ = some (.string l[k].mat) := hc 1 _ rfl
        have c2 : wr.cell? ⟨g, o + k * 3 + 2, none⟩ = some (.int .i64 l[k].left) := hc 2 _ rfl
        clear hc
        replace hd := hide hd
        go_wp2_with fail
        obtain ⟨w1, hw1⟩ : ∃ x, x = (wr).alloc (.cells [.string l[k].key, .string l[k].mat, .int .i64 l[k].left].toArray 38) := ⟨_, rfl⟩
        have hg1 : (wr).grownBy w1 none := by rw [hw1]; exact gr_alloc (World.grownBy.refl _ _) _
        have hb1 : Box w1 (wr).heap.size 38 [.string l[k].key, .string l[k].mat, .int .i64 l[k].left] := by rw [hw1]; exact Box.new _ _ _
        have hxs1 := hb1.lt
        rw [← hw1]
        clear hw1
        obtain ⟨x1, hx1⟩ : ∃ x, x = (wr).heap.size := ⟨_, rfl⟩
        rw [← hx1] at hb1 hxs1 ⊢
        have hxl1 : (wr).heap.size ≤ x1 := by omega
        clear hx1
        have HF : Hid (splF l k ≠ 0 → splsF l = splF l k) := fun h => HE.out.trans (scanN_at hall.out h hlt)
        have HO : Hid (splF l k = 0 → scanN (splF l) (k + 1) = 0) := fun h => scanN_ok hall.out h
        have HV : Hid (splF l k = if keyB l[k].key && keyB l[k].mat then (if outB l[k].left 0 1000000000 then 1 else if decide (0 < k) && leS l[k].key (l.getD (k - 1) default).key then 7 else 0) else 5) := by
          simp only [Hid, splF, List.getD_eq_getElem?_getD, List.getElem?_eq_getElem hlt, Option.getD_some]
        clear c0 c1 c2
        refine (isKey_any _ _).mono ?_
        rintro e w2 ⟨rfl, hg2⟩
        have b1 := ((hb1.pure hg2).c 1 rfl).1
        rcases h1 : keyB l[k].key with _ | _
        · go_wp2_with fail
          go_ret
          exact ⟨ret_int (by have e := HV.out; rw [h1] at e; simp only [Bool.false_and, Bool.false_eq_true, if_false] at e; rw [HF.out (by rw [e]; decide), e]), (by repeat (first | exact World.grownBy.refl _ _ | assumption | refine gr_alloc ?_ _ | (apply gr_tail; assumption) | refine gr_drewN ?_ _ | refine gr_drew ?_))⟩
        · go_wp2_with fail
          refine (isKey_any _ _).mono ?_
          rintro e w3 ⟨rfl, hg3⟩
          rcases h2 : keyB l[k].mat with _ | _
          · go_wp2_with fail
            go_ret
            exact ⟨ret_int (by have e := HV.out; rw [h1, h2] at e; simp only [Bool.and_false, Bool.false_eq_true, if_false] at e; rw [HF.out (by rw [e]; decide), e]), (by repeat (first | exact World.grownBy.refl _ _ | assumption | refine gr_alloc ?_ _ | (apply gr_tail; assumption) | refine gr_drewN ?_ _ | refine gr_drew ?_))⟩
          · clear b1
            have hb3 := hb1.pure (hg2.t hg3)
            have b0 := (hb3.c 0 rfl).1
            have b2 := (hb3.c 2 rfl).1
            have HV2 : Hid (splF l k = (if outB l[k].left 0 1000000000 then 1 else if decide (0 < k) && leS l[k].key (l.getD (k - 1) default).key then 7 else 0)) := by
              have e := HV.out; rw [h1, h2] at e; exact e
            replace h1 := hide h1
            replace h2 := hide h2
            clear HV
            rcases h3 : outB l[k].left 0 1000000000 with _ | _
            · have HV3 : Hid (splF l k = (if decide (0 < k) && leS l[k].key (l.getD (k - 1) default).key then 7 else 0)) := by
                have e := HV2.out; rw [h3] at e; exact e
              clear HV2
              go_wp2_with (go_at_call 38; refine (outside_any _ _ _ _).mono ?_; rintro _ _ ⟨rfl, rfl⟩)
              rcases k with _ | m
              · go_quiet (fail)
                go_wp2
                have e := HV3.out
                simp only [Nat.lt_irrefl, decide_false, Bool.false_and, Bool.false_eq_true, if_false] at e
                (go_roundw; (case rel => exact ⟨1, by omega, by go_num, gr_drewN (hg.t (hg1.t (hg2.t hg3))) _, HO.out e⟩); (case measure => simp [intOf]; omega))
              · have hp : 0 < m + 1 := by omega
                have hgw : w.grownBy w3 none := hg.t (hg1.t (hg2.t hg3))
                obtain ⟨g', o', cx, e, _, _, rfl, hc⟩ := (hl.gr hgw (by simp)).at_ (by decide) (show m < l.length by omega)
                cases e
                have c0 : w3.cell? ⟨g, o + m * 3, none⟩ = some (.string l[m].key) := hc 0 _ rfl
                clear hc
                have e := HV3.out
                simp only [hp, decide_true, Bool.true_and, Nat.add_sub_cancel, List.getD_eq_getElem?_getD, List.getElem?_eq_getElem (show m < l.length by omega), Option.getD_some] at e
                replace e := hide e
                clear HV3
                rcases hq : leS l[m + 1].key l[m].key with _ | _
                · have hq2 : (Op.bytesLess l[m + 1].key.toList l[m].key.toList || (l[m + 1].key.toList == l[m].key.toList)) = false := hq
                  replace hq := hide hq
                  go_quiet (fail)
                  go_wp2
                  (go_roundw; (case rel => exact ⟨m + 2, by omega, by go_num, gr_drewN (hg.t (hg1.t (hg2.t hg3))) _, HO.out (e.out.trans (by rw [hq.out]; rfl))⟩); (case measure => simp [intOf]; omega))
                · have hq2 : (Op.bytesLess l[m + 1].key.toList l[m].key.toList || (l[m + 1].key.toList == l[m].key.toList)) = true := hq
                  replace hq := hide hq
                  go_quiet (fail)
                  go_wp2_with fail
                  go_ret
                  exact ⟨ret_int (by have e2 := e.out; rw [hq.out, if_pos rfl] at e2; rw [HF.out (by rw [e2]; decide), e2]), gr_drewN (hg.t (hg1.t (hg2.t hg3))) _⟩
            · go_wp2_with (go_at_call 38; refine (outside_any _ _ _ _).mono ?_; rintro _ _ ⟨rfl, rfl⟩)
              go_ret
              exact ⟨ret_int (by have e := HV2.out; rw [h3] at e; simp only [if_true] at e; rw [HF.out (by rw [e]; decide), e]), (by repeat (first | exact World.grownBy.refl _ _ | assumption | refine gr_alloc ?_ _ | (apply gr_tail; assumption) | refine gr_drewN ?_ _ | refine gr_drew ?_))⟩
      · have HB : Hid (splsF l = 0) := by
          have : k = l.length := by omega
          subst this
          exact HE.out.trans hall.out
        replace hd := hide hd
        go_wp2_with fail
        go_ret
        exact ⟨ret_int HB.out.symm, hg⟩

set_option maxHeartbeats 4000000 in
theorem spoolsFault_any (A : Option Addr) (c : Nat) (l : List Spl) (w : World) (hl : Sl w 0 A l) :
    Calls Tryz.prog 8 #[.slice A l.length c] w fun e w' => e = .returned (.int .i64 (splsF l)) ∧ w.grownBy w' none := by
  have hm := hl.1
  unfold maxLen at hm
  by_cases h50 : 50 < l.length
  · have HE : Hid (splsF l = 2) := by simp [Hid, splsF, h50]
    have hd : decide ((l.length : Int) > 50) = true := by simp; omega
    go_enter Tryz.func8, Tryz.ntmps8
    go_wp2_with fail
    go_ret
    exact ⟨ret_int HE.out.symm, (by repeat (first | exact World.grownBy.refl _ _ | assumption | refine gr_alloc ?_ _ | (apply gr_tail; assumption) | refine gr_drewN ?_ _ | refine gr_drew ?_))⟩
  · have HE : Hid (splsF l = scanN (splF l) l.length) := by simp [Hid, splsF, h50]
    have hd : decide ((l.length : Int) > 50) = false := by simp; omega
    go_enter Tryz.func8, Tryz.ntmps8
    go_wp2_with fail
    go_loopw [10] (fun i wr => ∃ k : Nat, k ≤ l.length ∧ i = .int .i64 k ∧ w.grownBy wr none ∧ Hid (scanN (splF l) k = 0)) (fun i _ => l.length - (intOf i).toNat)
    case atStart => exact ⟨0, Nat.zero_le _, rfl, World.grownBy.refl _ _, rfl⟩
    case round =>
      obtain ⟨k, hk, rfl, hg, hall⟩ := hrel
      by_cases hlt : k < l.length
      · have hls := hl.gr hg (by simp)
        obtain ⟨g, o, cx, rfl, hb0, hb1, rfl, hc⟩ := hls.at_ (by decide) hlt
        have c0 : wr.cell? ⟨g, o + k * 3, none⟩ = some (.string l[k].key) := hc 0 _ rfl
        have c1 : wr.cell? ⟨g, o + k * 3 + 1, none⟩ = some (.string l[k].mat) := hc 1 _ rfl
        have c2 : wr.cell? ⟨g, o + k * 3 + 2, none⟩ = some (.int .i64 l[k].left) := hc 2 _ rfl
        clear hc
        replace hd := hide hd
        go_wp2_with fail
        obtain ⟨w1, hw1⟩ : ∃ x, x = (wr).alloc (.cells [.string l[k].key, .string l[k].mat, .int .i64 l[k].left].toArray 38) := ⟨_, rfl⟩
        have hg1 : (wr).grownBy w1 none := by rw [hw1]; exact gr_alloc (World.grownBy.refl _ _) _
        have hb1 : Box w1 (wr).heap.size 38 [.string l[k].key, .string l[k].mat, .int .i64 l[k].left] := by rw [hw1]; exact Box.new _ _ _
        have hxs1 := hb1.lt
        rw [← hw1]
        clear hw1
        obtain ⟨x1, hx1⟩ : ∃ x, x = (wr).heap.size := ⟨_, rfl⟩
        rw [← hx1] at hb1 hxs1 ⊢
        have hxl1 : (wr).heap.size ≤ x1 := by omega
        clear hx1
        have HF : Hid (splF l k ≠ 0 → splsF l = splF l k) := fun h => HE.out.trans (scanN_at hall.out h hlt)
        have HO : Hid (splF l k = 0 → scanN (splF l) (k + 1) = 0) := fun h => scanN_ok hall.out h
        have HV : Hid (splF l k = if keyB l[k].key && keyB l[k].mat then (if outB l[k].left 0 1000000000 then 1 else if decide (0 < k) && leS l[k].key (l.getD (k - 1) default).key then 7 else 0) else 5) := by
          simp only [Hid, splF, List.getD_eq_getElem?_getD, List.getElem?_eq_getElem hlt, Option.getD_some]
        clear c0 c1 c2
        refine (key_any _ _).mono ?_
        rintro e w2 ⟨rfl, hg2⟩
        have b1 := ((hb1.pure hg2).c 1 rfl).1
        rcases h1 : keyB l[k].key with _ | _
        · go_wp2_with fail
          go_ret
          exact ⟨ret_int (by have e := HV.out; rw [h1] at e; simp only [Bool.false_and, Bool.false_eq_true, if_false] at e; rw [HF.out (by rw [e]; decide), e]), (by repeat (first | exact World.grownBy.refl _ _ | assumption | refine gr_alloc ?_ _ | (apply gr_tail; assumption) | refine gr_drewN ?_ _ | refine gr_drew ?_))⟩
        · go_wp2_with fail
          refine (key_any _ _).mono ?_
          rintro e w3 ⟨rfl, hg3⟩
          rcases h2 : keyB l[k].mat with _ | _
          · go_wp2_with fail
            go_ret
            exact ⟨ret_int (by have e := HV.out; rw [h1, h2] at e; simp only [Bool.and_false, Bool.false_eq_true, if_false] at e; rw [HF.out (by rw [e]; decide), e]), (by repeat (first | exact World.grownBy.refl _ _ | assumption | refine gr_alloc ?_ _ | (apply gr_tail; assumption) | refine gr_drewN ?_ _ | refine gr_drew ?_))⟩
          · clear b1
            have hb3 := hb1.pure (hg2.t hg3)
            have b0 := (hb3.c 0 rfl).1
            have b2 := (hb3.c 2 rfl).1
            have HV2 : Hid (splF l k = (if outB l[k].left 0 1000000000 then 1 else if decide (0 < k) && leS l[k].key (l.getD (k - 1) default).key then 7 else 0)) := by
              have e := HV.out; rw [h1, h2] at e; exact e
            replace h1 := hide h1
            replace h2 := hide h2
            clear HV
            rcases h3 : outB l[k].left 0 1000000000 with _ | _
            · have HV3 : Hid (splF l k = (if decide (0 < k) && leS l[k].key (l.getD (k - 1) default).key then 7 else 0)) := by
                have e := HV2.out; rw [h3] at e; exact e
              clear HV2
              go_wp2_with (go_at_call 32; refine (in_any _ _ _ _).mono ?_; rintro _ _ ⟨rfl, rfl⟩; rw [in_outS])
              rcases k with _ | m
              · go_quiet (fail)
                go_wp2
                have e := HV3.out
                simp only [Nat.lt_irrefl, decide_false, Bool.false_and, Bool.false_eq_true, if_false] at e
                (go_roundw; (case rel => exact ⟨1, by omega, by go_num, gr_drewN (hg.t (hg1.t (hg2.t hg3))) _, HO.out e⟩); (case measure => simp [intOf]; omega))
              · have hp : 0 < m + 1 := by omega
                have hgw : w.grownBy w3 none := hg.t (hg1.t (hg2.t hg3))
                obtain ⟨g', o', cx, e, _, _, rfl, hc⟩ := (hl.gr hgw (by simp)).at_ (by decide) (show m < l.length by omega)
                cases e
                have c0 : w3.cell? ⟨g, o + m * 3, none⟩ = some (.string l[m].key) := hc 0 _ rfl
                clear hc
                have e := HV3.out
                simp only [hp, decide_true, Bool.true_and, Nat.add_sub_cancel, List.getD_eq_getElem?_getD, List.getElem?_eq_getElem (show m < l.length by omega), Option.getD_some] at e
                replace e := hide e
                clear HV3
                rcases hq : leS l[m + 1].key l[m].key with _ | _
                · have hq2 : (Op.bytesLess l[m + 1].key.toList l[m].key.toList || (l[m + 1].key.toList == l[m].key.toList)) = false := hq
                  replace hq := hide hq
                  go_quiet (fail)
                  go_wp2
                  (go_roundw; (case rel => exact ⟨m + 2, by omega, by go_num, gr_drewN (hg.t (hg1.t (hg2.t hg3))) _, HO.out (e.out.trans (by rw [hq.out]; rfl))⟩); (case measure => simp [intOf]; omega))
                · have hq2 : (Op.bytesLess l[m + 1].key.toList l[m].key.toList || (l[m + 1].key.toList == l[m].key.toList)) = true := hq
                  replace hq := hide hq
                  go_quiet (fail)
                  go_wp2_with fail
                  go_ret
                  exact ⟨ret_int (by have e2 := e.out; rw [hq.out, if_pos rfl] at e2; rw [HF.out (by rw [e2]; decide), e2]), gr_drewN (hg.t (hg1.t (hg2.t hg3))) _⟩
            · go_wp2_with (go_at_call 32; refine (in_any _ _ _ _).mono ?_; rintro _ _ ⟨rfl, rfl⟩; rw [in_outS])
              go_ret
              exact ⟨ret_int (by have e := HV2.out; rw [h3] at e; simp only [if_true] at e; rw [HF.out (by rw [e]; decide), e]), (by repeat (first | exact World.grownBy.refl _ _ | assumption | refine gr_alloc ?_ _ | (apply gr_tail; assumption) | refine gr_drewN ?_ _ | refine gr_drew ?_))⟩
      · have HB : Hid (splsF l = 0) := by
          have : k = l.length := by omega
          subst this
          exact HE.out.trans hall.out
        replace hd := hide hd
        go_wp2_with fail
        go_ret
        exact ⟨ret_int HB.out.symm, hg⟩

end Go.Proofs.YtpdhbhlnopmifaaGreatDoor
