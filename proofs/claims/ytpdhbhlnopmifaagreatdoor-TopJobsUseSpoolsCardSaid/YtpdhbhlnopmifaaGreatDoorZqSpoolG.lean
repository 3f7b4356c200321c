/- Contracts of functions that this seat's laws reach, each: what one call returns and what it leaves in memory; no condition beyond each theorem's own hypotheses. -/
import Derived.Test.YtpdhbhlnopmifaaGreatDoorZqFarmK
import Derived.Test.YtpdhbhlnopmifaaGreatDoorZqSpoolData
set_option linter.unusedVariables false
set_option linter.unusedSimpArgs false
namespace Go.Proofs.YtpdhbhlnopmifaaGreatDoor
open Go.RowKit Go.Bl

theorem in_outS (n a b : Int) : inB n a b = !outB n a b := by
  unfold inB outB; by_cases h1 : a ≤ n <;> by_cases h2 : n ≤ b <;> simp [h1, h2] <;> omega

set_option maxHeartbeats 4000000 in
theorem checkSpools_any (A : Option Addr) (c : Nat) (l : List Spl) (w : World) (hl : Sl w 0 A l) :
    Calls Tryz.prog 64 #[.slice A l.length c] w fun e w' => e = .returned (.int .i64 (splsF l)) ∧ w.grownBy w' none := by
  have hm := hl.1
  unfold maxLen at hm
  by_cases h50 : 50 < l.length
  · have HE : Hid (splsF l = 2) := by simp [Hid, splsF, h50]
    have hd : decide ((l.length : Int) > 50) = true := by simp; omega
    go_enter Tryz.func64, Tryz.ntmps64
    go_wp2_with fail
    go_ret
    exact ⟨ret_int HE.out.symm, (by repeat (first | exact World.grownBy.refl _ _ | assumption | refine gr_alloc ?_ _ | (apply gr_tail; assumption) | refine gr_drewN ?_ _ | refine gr_drew ?_))⟩
  · have HE : Hid (splsF l = scanN (splF l) l.length) := by simp [Hid, splsF, h50]
    have hd : decide ((l.length : Int) > 50) = false := by simp; omega
    go_enter Tryz.func64, Tryz.ntmps64
    go_wp2_with fail
    go_loopw [10] (fun i wr => ∃ k : Nat, k ≤ l.length ∧ i = .int .i64 k ∧ w.grownBy wr none ∧ Hid (scanN (splF l) k = 0)) (fun i _ => l.length - (intOf i).toNat)
    case atStart => exact ⟨0, Nat.zero_le _, rfl, World.grownBy.refl _ _, rfl⟩
    case round =>
      obtain ⟨k, hk, rfl, hg, hall⟩ := hrel
      by_cases hlt : k < l.length
      · have hls := hl.gr hg (by simp)
        obtain ⟨g, o, cx, rfl, hb0, hb1, rfl, hc⟩ := hls.at_ (by decide) hlt
        have c0 : wr.cell? ⟨g, o + k * 3, none⟩ = some (.string l[k].key) := hc 0 _ rfl
        have c1 : wr.cell? ⟨g, o + k * 3 + 1, none⟩ = some (.string l[k].mat) := hc 1 _ rfl
        have c2 : wr.cell? ⟨g, o + k * 3 + 2, none⟩ = some (.int .i64 l[k].left) := hc 2 _ rfl
        clear hc
        replace hd := hide hd
        go_wp2_with fail
        obtain ⟨w1, hw1⟩ : ∃ x, x = (wr).alloc (.cells [.string l[k].key, .string l[k].mat, .int .i64 l[k].left].toArray 38) := ⟨_, rfl⟩
        have hg1 : (wr).grownBy w1 none := by rw [hw1]; exact gr_alloc (World.grownBy.refl _ _) _
        have hb1 : Box w1 (wr).heap.size 38 [.string l[k].key, .string l[k].mat, .int .i64 l[k].left] := by rw [hw1]; exact Box.new _ _ _
        have hxs1 := hb1.lt
        rw [← hw1]
        clear hw1
        obtain ⟨x1, hx1⟩ : ∃ x, x = (wr).heap.size := ⟨_, rfl⟩
        rw [← hx1] at hb1 hxs1 ⊢
        have hxl1 : (wr).heap.size ≤ x1 := by omega
        clear hx1
        have HF : Hid (splF l k ≠ 0 → splsF l = splF l k) := fun h => HE.out.trans (scanN_at hall.out h hlt)
        have HO : Hid (splF l k = 0 → scanN (splF l) (k + 1) = 0) := fun h => scanN_ok hall.out h
        have HV : Hid (splF l k = if keyB l[k].key && keyB l[k].mat then (if outB l[k].left 0 1000000000 then 1 else if decide (0 < k) && leS l[k].key (l.getD (k - 1) default).key then 7 else 0) else 5) := by
          simp only [Hid, splF, List.getD_eq_getElem?_getD, List.getElem?_eq_getElem hlt, Option.getD_some]
        clear c0 c1 c2
        refine (isKey_any _ _).mono ?_
        rintro e w2 ⟨rfl, hg2⟩
        have b1 := ((hb1.pure hg2).c 1 rfl).1
        rcases h1 : keyB l[k].key with _ | _
        · go_wp2_with fail
          go_ret
          exact ⟨ret_int (by have e := HV.out; rw [h1] at e; simp only [Bool.false_and, Bool.false_eq_true, if_false] at e; rw [HF.out (by rw [e]; decide), e]), (by repeat (first | exact World.grownBy.refl _ _ | assumption | refine gr_alloc ?_ _ | (apply gr_tail; assumption) | refine gr_drewN ?_ _ | refine gr_drew ?_))⟩
        · go_wp2_with fail
          refine (isKey_any _ _).mono ?_
          rintro e w3 ⟨rfl, hg3⟩
          rcases h2 : keyB l[k].mat with _ | _
          · go_wp2_with fail
            go_ret
            exact ⟨ret_int (by have e := HV.out; rw [h1, h2] at e; simp only [Bool.and_false, Bool.false_eq_true, if_false] at e; rw [HF.out (by rw [e]; decide), e]), (by repeat (first | exact World.grownBy.refl _ _ | assumption | refine gr_alloc ?_ _ | (apply gr_tail; assumption) | refine gr_drewN ?_ _ | refine gr_drew ?_))⟩
          · clear b1
            have hb3 := hb1.pure (hg2.t hg3)
            have b0 := (hb3.c 0 rfl).1
            have b2 := (hb3.c 2 rfl).1
            have HV2 : Hid (splF l k = (if outB l[k].left 0 1000000000 then 1 else if decide (0 < k) && leS l[k].key (l.getD (k - 1) default).key then 7 else 0)) := by
              have e := HV.out; rw [h1, h2] at e; exact e
            replace h1 := hide h1
            replace h2 := hide h2
            clear HV
            rcases h3 : outB l[k].left 0 1000000000 with _ | _
            · have HV3 : Hid (splF l k = (if decide (0 < k) && leS l[k].key (l.getD (k - 1) default).key then 7 else 0)) := by
                have e := HV2.out; rw [h3] at e; exact e
              clear HV2
              go_wp2_with (go_at_call 38; refine (outside_any _ _ _ _).mono ?_; rintro _ _ ⟨rfl, rfl⟩)
              rcases k with _ | m
              · go_quiet (fail)
                go_wp2
                have e := HV3.out
                simp only [Nat.lt_irrefl, decide_false, Bool.false_and, Bool.false_eq_true, if_false] at e
                (go_roundw; (case rel => exact ⟨1, by omega, by go_num, gr_drewN (hg.t (hg1.t (hg2.t hg3))) _, HO.out e⟩); (case measure => simp [intOf]; omega))
              · have hp : 0 < m + 1 := by omega
                have hgw : w.grownBy w3 none := hg.t (hg1.t (hg2.t hg3))
                obtain ⟨g', o', cx, e, _, _, rfl, hc⟩ := (hl.gr hgw (by simp)).at_ (by decide) (show m < l.length by omega)
                cases e
                have c0 : w3.cell? ⟨g, o + m * 3, none⟩ = some (.string l[m].key) := hc 0 _ rfl
                clear hc
                have e := HV3.out
                simp only [hp, decide_true, Bool.true_and, Nat.add_sub_cancel, List.getD_eq_getElem?_getD, List.getElem?_eq_getElem (show m < l.length by omega), Option.getD_some] at e
                replace e := hide e
                clear HV3
                rcases hq : leS l[m + 1].key l[m].key with _ | _
                · have hq2 : (Op.bytesLess l[m + 1].key.toList l[m].key.toList || (l[m + 1].key.toList == l[m].key.toList)) = false := hq
                  replace hq := hide hq
                  go_quiet (fail)
                  go_wp2
                  (go_roundw; (case rel => exact ⟨m + 2, by omega, by go_num, gr_drewN (hg.t (hg1.t (hg2.t hg3))) _, HO.out (e.out.trans (by rw [hq.out]; rfl))⟩); (case measure => simp [intOf]; omega))
                · have hq2 : (Op.bytesLess l[m + 1].key.toList l[m].key.toList || (l[m + 1].key.toList == l[m].key.toList)) = true := hq
                  replace hq := hide hq
                  go_quiet (fail)
                  go_wp2_with fail
                  go_ret
                  exact ⟨ret_int (by have e2 := e.out; rw [hq.out, if_pos rfl] at e2; rw [HF.out (by rw [e2]; decide), e2]), gr_drewN (hg.t (hg1.t (hg2.t hg3))) _⟩
            · go_wp2_with (go_at_call 38; refine (outside_any _ _ _ _).mono ?_; rintro _ _ ⟨rfl, rfl⟩)
              go_ret
              exact ⟨ret_int (by have e := HV2.out; rw [h3] at e; simp only [if_true] at e; rw [HF.out (by rw [e]; decide), e]), (by repeat (first | exact World.grownBy.refl _ _ | assumption | refine gr_alloc ?_ _ | (apply gr_tail; assumption) | refine gr_drewN ?_ _ | refine gr_drew ?_))⟩
      · have HB : Hid (splsF l = 0) := by
          have : k = l.length := by omega
          subst this
          exact HE.out.trans hall.out
        replace hd := hide hd
        go_wp2_with fail
        go_ret
        exact ⟨ret_int HB.out.symm, hg⟩

set_option maxHeartbeats 4000000 in
theorem spoolsFault_any (A : Option Addr) (c : Nat) (l : List Spl) (w : World) (hl : Sl w 0 A l) :
    Calls Tryz.prog 8 #[.slice A l.length c] w fun e w' => e = .returned (.int .i64 (splsF l)) ∧ w.grownBy w' none := by
  have hm := hl.1
  unfold maxLen at hm
  by_cases h50 : 50 < l.length
  · have HE : Hid (splsF l = 2) := by simp [Hid, splsF, h50]
    have hd : decide ((l.length : Int) > 50) = true := by simp; omega
    go_enter Tryz.func8, Tryz.ntmps8
    go_wp2_with fail
    go_ret
    exact ⟨ret_int HE.out.symm, (by repeat (first | exact World.grownBy.refl _ _ | assumption | refine gr_alloc ?_ _ | (apply gr_tail; assumption) | refine gr_drewN ?_ _ | refine gr_drew ?_))⟩
  · have HE : Hid (splsF l = scanN (splF l) l.length) := by simp [Hid, splsF, h50]
    have hd : decide ((l.length : Int) > 50) = false := by simp; omega
    go_enter Tryz.func8, Tryz.ntmps8
    go_wp2_with fail
    go_loopw [10] (fun i wr => ∃ k : Nat, k ≤ l.length ∧ i = .int .i64 k ∧ w.grownBy wr none ∧ Hid (scanN (splF l) k = 0)) (fun i _ => l.length - (intOf i).toNat)
    case atStart => exact ⟨0, Nat.zero_le _, rfl, World.grownBy.refl _ _, rfl⟩
    case round =>
      obtain ⟨k, hk, rfl, hg, hall⟩ := hrel
      by_cases hlt : k < l.length
      · have hls := hl.gr hg (by simp)
        obtain ⟨g, o, cx, rfl, hb0, hb1, rfl, hc⟩ := hls.at_ (by decide) hlt
        have c0 : wr.cell? ⟨g, o + k * 3, none⟩ = some (.string l[k].key) := hc 0 _ rfl
        have c1 : wr.cell? ⟨g, o + k * 3 + 1, none⟩ = some (.string l[k].mat) := hc 1 _ rfl
        have c2 : wr.cell? ⟨g, o + k * 3 + 2, none⟩ = some (.int .i64 l[k].left) := hc 2 _ rfl
        clear hc
        replace hd := hide hd
        go_wp2_with fail
        obtain ⟨w1, hw1⟩ : ∃ x, x = (wr).alloc (.cells [.string l[k].key, .string l[k].mat, .int .i64 l[k].left].toArray 38) := ⟨_, rfl⟩
        have hg1 : (wr).grownBy w1 none := by rw [hw1]; exact gr_alloc (World.grownBy.refl _ _) _
        have hb1 : Box w1 (wr).heap.size 38 [.string l[k].key, .string l[k].mat, .int .i64 l[k].left] := by rw [hw1]; exact Box.new _ _ _
        have hxs1 := hb1.lt
        rw [← hw1]
        clear hw1
        obtain ⟨x1, hx1⟩ : ∃ x, x = (wr).heap.size := ⟨_, rfl⟩
        rw [← hx1] at hb1 hxs1 ⊢
        have hxl1 : (wr).heap.size ≤ x1 := by omega
        clear hx1
        have HF : Hid (splF l k ≠ 0 → splsF l = splF l k) := fun h => HE.out.trans (scanN_at hall.out h hlt)
        have HO : Hid (splF l k = 0 → scanN (splF l) (k + 1) = 0) := fun h => scanN_ok hall.out h
        have HV : Hid (splF l k = if keyB l[k].key && keyB l[k].mat then (if outB l[k].left 0 1000000000 then 1 else if decide (0 < k) && leS l[k].key (l.getD (k - 1) default).key then 7 else 0) else 5) := by
          simp only [Hid, splF, List.getD_eq_getElem?_getD, List.getElem?_eq_getElem hlt, Option.getD_some]
        clear c0 c1 c2
        refine (key_any _ _).mono ?_
        rintro e w2 ⟨rfl, hg2⟩
        have b1 := ((hb1.pure hg2).c 1 rfl).1
        rcases h1 : keyB l[k].key with _ | _
        · go_wp2_with fail
          go_ret
          exact ⟨ret_int (by have e := HV.out; rw [h1] at e; simp only [Bool.false_and, Bool.false_eq_true, if_false] at e; rw [HF.out (by rw [e]; decide), e]), (by repeat (first | exact World.grownBy.refl _ _ | assumption | refine gr_alloc ?_ _ | (apply gr_tail; assumption) | refine gr_drewN ?_ _ | refine gr_drew ?_))⟩
        · go_wp2_with fail
          refine (key_any _ _).mono ?_
          rintro e w3 ⟨rfl, hg3⟩
          rcases h2 : keyB l[k].mat with _ | _
          · go_wp2_with fail
            go_ret
            exact ⟨ret_int (by have e := HV.out; rw [h1, h2] at e; simp only [Bool.and_false, Bool.false_eq_true, if_false] at e; rw [HF.out (by rw [e]; decide), e]), (by repeat (first | exact World.grownBy.refl _ _ | assumption | refine gr_alloc ?_ _ | (apply gr_tail; assumption) | refine gr_drewN ?_ _ | refine gr_drew ?_))⟩
          · clear b1
            have hb3 := hb1.pure (hg2.t hg3)
            have b0 := (hb3.c 0 rfl).1
            have b2 := (hb3.c 2 rfl).1
            have HV2 : Hid (splF l k = (if outB l[k].left 0 1000000000 then 1 else if decide (0 < k) && leS l[k].key (l.getD (k - 1) default).key then 7 else 0)) := by
              have e := HV.out; rw [h1, h2] at e; exact e
            replace h1 := hide h1
            replace h2 := hide h2
            clear HV
            rcases h3 : outB l[k].left 0 1000000000 with _ | _
            · have HV3 : Hid (splF l k = (if decide (0 < k) && leS l[k].key (l.getD (k - 1) default).key then 7 else 0)) := by
                have e := HV2.out; rw [h3] at e; exact e
              clear HV2
              go_wp2_with (go_at_call 32; refine (in_any _ _ _ _).mono ?_; rintro _ _ ⟨rfl, rfl⟩; rw [in_outS])
              rcases k with _ | m
              · go_quiet (fail)
                go_wp2
                have e := HV3.out
                simp only [Nat.lt_irrefl, decide_false, Bool.false_and, Bool.false_eq_true, if_false] at e
                (go_roundw; (case rel => exact ⟨1, by omega, by go_num, gr_drewN (hg.t (hg1.t (hg2.t hg3))) _, HO.out e⟩); (case measure => simp [intOf]; omega))
              · have hp : 0 < m + 1 := by omega
                have hgw : w.grownBy w3 none := hg.t (hg1.t (hg2.t hg3))
                obtain ⟨g', o', cx, e, _, _, rfl, hc⟩ := (hl.gr hgw (by simp)).at_ (by decide) (show m < l.length by omega)
                cases e
                have c0 : w3.cell? ⟨g, o + m * 3, none⟩ = some (.string l[m].key) := hc 0 _ rfl
                clear hc
                have e := HV3.out
                simp only [hp, decide_true, Bool.true_and, Nat.add_sub_cancel, List.getD_eq_getElem?_getD, List.getElem?_eq_getElem (show m < l.length by omega), Option.getD_some] at e
                replace e := hide e
                clear HV3
                rcases hq : leS l[m + 1].key l[m].key with _ | _
                · have hq2 : (Op.bytesLess l[m + 1].key.toList l[m].key.toList || (l[m + 1].key.toList == l[m].key.toList)) = false := hq
                  replace hq := hide hq
                  go_quiet (fail)
                  go_wp2
                  (go_roundw; (case rel => exact ⟨m + 2, by omega, by go_num, gr_drewN (hg.t (hg1.t (hg2.t hg3))) _, HO.out (e.out.trans (by rw [hq.out]; rfl))⟩); (case measure => simp [intOf]; omega))
                · have hq2 : (Op.bytesLess l[m + 1].key.toList l[m].key.toList || (l[m + 1].key.toList == l[m].key.toList)) = true := hq
                  replace hq := hide hq
                  go_quiet (fail)
                  go_wp2_with fail
                  go_ret
                  exact ⟨ret_int (by have e2 := e.out; rw [hq.out, if_pos rfl] at e2; rw [HF.out (by rw [e2]; decide), e2]), gr_drewN (hg.t (hg1.t (hg2.t hg3))) _⟩
            · go_wp2_with (go_at_call 32; refine (in_any _ _ _ _).mono ?_; rintro _ _ ⟨rfl, rfl⟩; rw [in_outS])
              go_ret
              exact ⟨ret_int (by have e := HV2.out; rw [h3] at e; simp only [if_true] at e; rw [HF.out (by rw [e]; decide), e]), (by repeat (first | exact World.grownBy.refl _ _ | assumption | refine gr_alloc ?_ _ | (apply gr_tail; assumption) | refine gr_drewN ?_ _ | refine gr_drew ?_))⟩
      · have HB : Hid (splsF l = 0) := by
          have : k = l.length := by omega
          subst this
          exact HE.out.trans hall.out
        replace hd := hide hd
        go_wp2_with fail
        go_ret
        exact ⟨ret_int HB.out.symm, hg⟩

end Go.Proofs.YtpdhbhlnopmifaaGreatDoor

namespace Go.Proofs.YtpdhbhlnopmifaaGreatDoor
open Go.RowKit Go.Bl

set_option maxHeartbeats 800000 in
theorem spoolCmp_any (x : Spl) (key : ByteArray) (w : World) :
    Calls Tryz.prog 99 #[.agg #[.string x.key, .string x.mat, .int .i64 x.left], .string key] w fun e w' => e = .returned (.int .i64 (cmpK x.key key)) ∧ w.grownBy w' none := by
  go_enter Tryz.func99, Tryz.ntmps99
  go_wp2_with (go_at_call 100; refine (Tryz.strings_Compare _ _ _).mono ?_; rintro e w' ⟨rfl, rfl⟩)
  go_ret
  exact ⟨rfl, (by repeat (first | exact World.grownBy.refl _ _ | assumption | refine gr_alloc ?_ _ | (apply gr_tail; assumption) | refine gr_drewN ?_ _ | refine gr_drew ?_))⟩

set_option maxHeartbeats 2000000 in
theorem binSpool_any (A : Option Addr) (c : Nat) (l : List Spl) (key : ByteArray) (w : World) (hl : Sl w 0 A l) (h0 : splsF l = 0) :
    Calls Tryz.prog 98 #[.slice A l.length c, .string key, .func (.func 99) #[] #[]] w fun e w' => ∃ r : Int, e = .returned (.tuple #[.int .i64 r, .bool (hasS l key)]) ∧ (hasS l key = true → r = idxS l key) ∧ w.grownBy w' none := by
  have hup := hide (spl_sorted h0)
  have hlen := (splsF_zero h0).1
  have h0' := hide h0
  clear h0
  go_enter Tryz.func98, Tryz.ntmps98
  go_wp2
  go_loopw [9, 10] (fun a b wr => ∃ i j : Nat, i ≤ j ∧ j ≤ l.length ∧ a = .int .i64 i ∧ b = .int .i64 j ∧ Hid (∀ k (hk : k < l.length), k < i → cmpK l[k].key key = -1) ∧ Hid (∀ k (hk : k < l.length), j ≤ k → cmpK l[k].key key ≠ -1) ∧ w.grownBy wr none) (fun a b _ => (intOf b - intOf a).toNat)
  case atStart => exact ⟨0, l.length, Nat.zero_le _, Nat.le_refl _, rfl, rfl, fun k _ h => by omega, fun k _ h => by omega, World.grownBy.refl _ _⟩
  case round =>
    obtain ⟨i, j, hij, hj, rfl, rfl, hlo, hhi, hg⟩ := hrel
    by_cases hlt : i < j
    · obtain ⟨m, hm⟩ : ∃ m : Nat, ((i : Int) + j) / 2 = m := ⟨(i + j) / 2, by omega⟩
      have hm2 : i ≤ m ∧ m < j := by omega
      have hml : m < l.length := by omega
      obtain ⟨g, o, cx, rfl, hb0, hb1, rfl, hc⟩ := (hl.pure hg).at_ (by decide) hml
      have c0 : wr.cell? ⟨g, o + m * 3, none⟩ = some (.string l[m].key) := hc 0 _ rfl
      have c1 : wr.cell? ⟨g, o + m * 3 + 1, none⟩ = some (.string l[m].mat) := hc 1 _ rfl
      have c2 : wr.cell? ⟨g, o + m * 3 + 2, none⟩ = some (.int .i64 l[m].left) := hc 2 _ rfl
      clear hc
      obtain ⟨z, hz⟩ : ∃ z, cmpK l[m].key key = z := ⟨_, rfl⟩
      rcases hb : decide (z < 0) with _ | _
      · have hge : cmpK l[m].key key ≠ -1 := by rw [hz]; have := of_decide_eq_false hb; omega
        have HS : Hid (∀ k (hk : k < l.length), m ≤ k → cmpK l[k].key key ≠ -1) := fun k hk hmk => by
          rcases Nat.lt_or_ge m k with h | h
          · exact fun e => hge (cmpK_trans (hup.out k m hk h) e)
          · obtain rfl : m = k := by omega
            exact hge
        clear hge
        replace hz := hide hz
        go_wp2_with fail
        refine (spoolCmp_any l[m] _ _).mono ?_
        rintro e w' ⟨rfl, hg2⟩
        rw [hz.out]
        go_wp2
        go_roundw
        case rel => exact ⟨i, m, by omega, by omega, rfl, rfl, hlo, HS, hg.t hg2⟩
        case measure => simp [intOf]; omega
      · have hlt2 : cmpK l[m].key key = -1 := by
          have := of_decide_eq_true hb
          rcases cmpK_val l[m].key key with h | h | h <;> omega
        have HS : Hid (∀ k (hk : k < l.length), k < m + 1 → cmpK l[k].key key = -1) := fun k hk hmk => by
          rcases Nat.lt_or_ge k m with h | h
          · exact cmpK_trans (hup.out m k hml h) hlt2
          · obtain rfl : m = k := by omega
            exact hlt2
        clear hlt2
        replace hz := hide hz
        go_wp2_with fail
        refine (spoolCmp_any l[m] _ _).mono ?_
        rintro e w' ⟨rfl, hg2⟩
        rw [hz.out]
        go_wp2
        go_roundw
        case rel => exact ⟨m + 1, j, by omega, by omega, by go_num, rfl, HS, hhi, hg.t hg2⟩
        case measure => simp [intOf]; omega
    · have hij2 : i = j := by omega
      subst hij2
      by_cases hil : i < l.length
      · obtain ⟨g, o, cx, rfl, hb0, hb1, rfl, hc⟩ := (hl.pure hg).at_ (by decide) hil
        have c0 : wr.cell? ⟨g, o + i * 3, none⟩ = some (.string l[i].key) := hc 0 _ rfl
        have c1 : wr.cell? ⟨g, o + i * 3 + 1, none⟩ = some (.string l[i].mat) := hc 1 _ rfl
        have c2 : wr.cell? ⟨g, o + i * 3 + 2, none⟩ = some (.int .i64 l[i].left) := hc 2 _ rfl
        clear hc
        obtain ⟨z, hz⟩ : ∃ z, cmpK l[i].key key = z := ⟨_, rfl⟩
        rcases hb : (z == 0) with _ | _
        · have HS : Hid (hasS l key = false) := has_not (fun k hk e => by
            have h1 := hhi.out i hil (Nat.le_refl _)
            have hz0 : z ≠ 0 := by simpa using hb
            rcases Nat.lt_trichotomy k i with h | h | h
            · have h2 := hlo.out k hk h
              rw [e, cmpK_zero.2 rfl] at h2
              cases h2
            · subst h
              rw [e, cmpK_zero.2 rfl] at hz
              exact hz0 hz.symm
            · have h2 := hup.out k i hk h
              rw [e] at h2
              exact h1 h2)
          replace hz := hide hz
          go_wp2_with fail
          refine (spoolCmp_any l[i] _ _).mono ?_
          rintro e w' ⟨rfl, hg2⟩
          rw [hz.out]
          go_wp2
          go_ret2
          exact ⟨_, by rw [HS.out]; rfl, fun h => (by rw [HS.out] at h; cases h), hg.t hg2⟩
        · have hk : l[i].key = key := cmpK_zero.1 (by rw [hz]; simpa using hb)
          have HS := hide (idx_of h0'.out hil hk)
          clear hk
          replace hz := hide hz
          go_wp2_with fail
          refine (spoolCmp_any l[i] _ _).mono ?_
          rintro e w' ⟨rfl, hg2⟩
          rw [hz.out]
          go_wp2
          go_ret2
          exact ⟨_, by rw [HS.out.1]; rfl, fun _ => by rw [HS.out.2], hg.t hg2⟩
      · have HS : Hid (hasS l key = false) := has_not (fun k hk e => by
          have h2 := hlo.out k hk (by omega)
          rw [e, cmpK_zero.2 rfl] at h2
          cases h2)
        go_wp2
        go_ret2
        exact ⟨_, by rw [HS.out]; rfl, fun h => (by rw [HS.out] at h; cases h), hg⟩

set_option maxHeartbeats 800000 in
theorem spoolAt_any (A : Option Addr) (c : Nat) (l : List Spl) (key : ByteArray) (w : World) (hl : Sl w 0 A l) (h0 : splsF l = 0) :
    Calls Tryz.prog 68 #[.slice A l.length c, .string key] w fun e w' => ∃ r : Int, e = .returned (.tuple #[.int .i64 r, .bool (hasS l key)]) ∧ (hasS l key = true → r = idxS l key) ∧ w.grownBy w' none := by
  have h0' := hide h0
  go_enter Tryz.func68, Tryz.ntmps68
  go_wp2_with fail
  refine (binSpool_any _ _ _ _ _ hl h0'.out).mono ?_
  rintro e w1 ⟨r, rfl, hr, hg⟩
  replace hr := hide hr
  go_wp2_with fail
  go_ret2
  exact ⟨r, rfl, hr.out, hg⟩

end Go.Proofs.YtpdhbhlnopmifaaGreatDoor

namespace Go.Proofs.YtpdhbhlnopmifaaGreatDoor
open Go.RowKit Go.Bl

theorem isMoment_any (n : Int) (w : World) :
    Calls Tryz.prog 69 #[.int .i64 n] w fun e w' => e = .returned (.bool (!momO n)) ∧ w = w' := by
  go_enter Tryz.func69, Tryz.ntmps69
  go_wp2_with (go_at_call 38; refine (outside_any _ _ _ _).mono ?_; rintro _ _ ⟨rfl, rfl⟩)
  go_ret
  exact ⟨rfl, rfl⟩

theorem isLong_any (n : Int) (w : World) :
    Calls Tryz.prog 70 #[.int .i64 n] w fun e w' => e = .returned (.bool (!longO n)) ∧ w = w' := by
  by_cases h : n = 0
  · have hb : (n == 0) = true := by simp [h]
    have HV : Hid ((!longO n) = false) := by simp [Hid, longO, h]
    have hd : (n != 0) = false := by simp [h]
    clear h
    go_enter Tryz.func70, Tryz.ntmps70
    go_wp2_with (go_at_call 38; refine (outside_any _ _ _ _).mono ?_; rintro _ _ ⟨rfl, rfl⟩)
    go_ret
    exact ⟨ret_bool HV.out.symm, rfl⟩
  · have HV : Hid ((!longO n) = !outB n (-1000000000) 1000000000) := by simp [Hid, longO, h]
    have hd : (n != 0) = true := by simp [h]
    clear h
    go_enter Tryz.func70, Tryz.ntmps70
    go_wp2_with (go_at_call 38; refine (outside_any _ _ _ _).mono ?_; rintro _ _ ⟨rfl, rfl⟩)
    go_ret
    exact ⟨ret_bool HV.out.symm, rfl⟩

def lfF (n : Int) : Int := if longO n then 1 else 0

def keyIs (key : ByteArray) (x : Spl) : Bool := decide (x.key = key)

end Go.Proofs.YtpdhbhlnopmifaaGreatDoor

namespace Go.Proofs.YtpdhbhlnopmifaaGreatDoor
open Go.RowKit Go.Bl

set_option maxHeartbeats 4000000 in
theorem drawsFault_any (A : Option Addr) (c : Nat) (s : List Spl) (B : Option Addr) (e0 : Nat) (d : List Drw) (w : World) (hl : Sl w 0 A s) (hm : Sl w 0 B d) :
    Calls Tryz.prog 40 #[.slice A s.length c, .slice B d.length e0] w fun e w' => e = .returned (.int .i64 (drwsF s d)) ∧ w.grownBy w' none := by
  have hm1 := hl.1
  have hm2 := hm.1
  unfold maxLen at hm1 hm2
  go_enter Tryz.func40, Tryz.ntmps40
  go_wp2_with fail
  refine (checkSpools_any _ _ _ _ hl).mono ?_
  rintro e w1 ⟨rfl, hg0⟩
  have HZ : Hid (drwsF s d = if splsF s ≠ 0 then splsF s else if 5000 < d.length then 2 else scanN (drwF s d) d.length) := rfl
  have HSP : Hid (splsF s = splsF s) := rfl
  by_cases hz0 : splsF s = 0
  · rw [hz0]
    have HZ1 : Hid (drwsF s d = if 5000 < d.length then 2 else scanN (drwF s d) d.length) := by rw [Hid, HZ.out, if_neg (by simp [hz0])]
    replace hz0 := hide hz0
    clear HZ
    by_cases h50 : 5000 < d.length
    · have HE : Hid (drwsF s d = 2) := by rw [Hid, HZ1.out, if_pos h50]
      have hd : decide ((d.length : Int) > 5000) = true := by simp; omega
      go_wp2_with fail
      go_ret
      exact ⟨ret_int HE.out.symm, hg0⟩
    · have HE : Hid (drwsF s d = scanN (drwF s d) d.length) := by rw [Hid, HZ1.out, if_neg h50]
      have hd : decide ((d.length : Int) > 5000) = false := by simp; omega
      go_wp2_with fail
      go_loopw [20] (fun i wr => ∃ k : Nat, k ≤ d.length ∧ i = .int .i64 k ∧ w.grownBy wr none ∧ Hid (scanN (drwF s d) k = 0)) (fun i _ => d.length - (intOf i).toNat)
      case atStart => exact ⟨0, Nat.zero_le _, rfl, hg0, rfl⟩
      case round =>
        obtain ⟨k, hk, rfl, hg, hall⟩ := hrel
        replace hd := hide hd
        by_cases hlt : k < d.length
        · have hls := hm.gr hg (by simp)
          obtain ⟨g, o, cx, rfl, hb0, hb1, rfl, hc⟩ := (hls).at_ (by decide) hlt
          have c0 : wr.cell? ⟨g, o + k * 3, none⟩ = some (.int .i64 d[k].at_) := hc 0 _ rfl
          have c1 : wr.cell? ⟨g, o + k * 3 + 1, none⟩ = some (.string d[k].spool) := hc 1 _ rfl
          have c2 : wr.cell? ⟨g, o + k * 3 + 2, none⟩ = some (.int .i64 d[k].long) := hc 2 _ rfl
          clear hc
          have HF : Hid (drwF s d k ≠ 0 → drwsF s d = drwF s d k) := fun h => HE.out.trans (scanN_at hall.out h hlt)
          have HO : Hid (drwF s d k = 0 → scanN (drwF s d) (k + 1) = 0) := fun h => scanN_ok hall.out h
          have HV : Hid (drwF s d k = if momO d[k].at_ then 1 else if hasS s d[k].spool then (if longO d[k].long then 1 else if decide (0 < k) && decide (d[k].at_ < (d.getD (k - 1) default).at_) then 7 else 0) else 8) := by
            simp only [Hid, drwF, List.getD_eq_getElem?_getD, List.getElem?_eq_getElem hlt, Option.getD_some]
          go_wp2_with fail
          obtain ⟨w1, hw1⟩ : ∃ x, x = (wr).alloc (.cells [.int .i64 d[k].at_, .string d[k].spool, .int .i64 d[k].long].toArray 40) := ⟨_, rfl⟩
          have hg1 : (wr).grownBy w1 none := by rw [hw1]; exact gr_alloc (World.grownBy.refl _ _) _
          have hb1 : Box w1 (wr).heap.size 40 [.int .i64 d[k].at_, .string d[k].spool, .int .i64 d[k].long] := by rw [hw1]; exact Box.new _ _ _
          have hxs1 := hb1.lt
          rw [← hw1]
          clear hw1
          obtain ⟨x1, hx1⟩ : ∃ x, x = (wr).heap.size := ⟨_, rfl⟩
          rw [← hx1] at hb1 hxs1 ⊢
          have hxl1 : (wr).heap.size ≤ x1 := by omega
          clear hx1
          clear c0 c1 c2
          refine (spoolAt_any _ _ _ _ _ (hl.gr (hg.t hg1) (by simp)) hz0.out).mono ?_
          rintro e wq ⟨r, rfl, -, hgq⟩
          have hbq := hb1.pure hgq
          have b0 := (hbq.c 0 rfl).1
          have b2 := (hbq.c 2 rfl).1
          rcases h1 : momO d[k].at_ with _ | _
          · have HV2 : Hid (drwF s d k = if hasS s d[k].spool then (if longO d[k].long then 1 else if decide (0 < k) && decide (d[k].at_ < (d.getD (k - 1) default).at_) then 7 else 0) else 8) := by
              have e := HV.out; rw [h1] at e; exact e
            clear HV
            replace h1 := hide h1
            rcases h2 : hasS s d[k].spool with _ | _
            · go_wp2_with (go_at_call 69; refine (isMoment_any _ _).mono ?_; rintro _ _ ⟨rfl, rfl⟩; rw [h1.out])
              go_ret
              exact ⟨ret_int (by have e := HV2.out; rw [h2] at e; simp only [Bool.false_eq_true, if_false] at e; rw [HF.out (by rw [e]; decide), e]), hg.t (hg1.t hgq)⟩
            · have HV3 : Hid (drwF s d k = if longO d[k].long then 1 else if decide (0 < k) && decide (d[k].at_ < (d.getD (k - 1) default).at_) then 7 else 0) := by
                have e := HV2.out; rw [h2] at e; exact e
              clear HV2
              skip
              rcases h3 : longO d[k].long with _ | _
              · have HV4 : Hid (drwF s d k = if decide (0 < k) && decide (d[k].at_ < (d.getD (k - 1) default).at_) then 7 else 0) := by
                  have e := HV3.out; rw [h3] at e; exact e
                clear HV3
                go_wp2_with (first | (go_at_call 69; refine (isMoment_any _ _).mono ?_; rintro _ _ ⟨rfl, rfl⟩; rw [h1.out]) | (go_at_call 70; refine (isLong_any _ _).mono ?_; rintro _ _ ⟨rfl, rfl⟩; rw [h3]))
                rcases k with _ | m
                · go_quiet (fail)
                  go_wp2
                  have e := HV4.out
                  simp only [Nat.lt_irrefl, decide_false, Bool.false_and, Bool.false_eq_true, if_false] at e
                  (go_roundw; (case rel => exact ⟨1, by omega, by go_num, gr_drewN (hg.t (hg1.t hgq)) _, HO.out e⟩); (case measure => simp [intOf]; omega))
                · have hp : 0 < m + 1 := by omega
                  have hgw : w.grownBy wq none := hg.t (hg1.t hgq)
                  obtain ⟨g', o', cx, e, _, _, rfl, hc⟩ := (hm.gr hgw (by simp)).at_ (by decide) (show m < d.length by omega)
                  cases e
                  have c0 : wq.cell? ⟨g, o + m * 3, none⟩ = some (.int .i64 d[m].at_) := hc 0 _ rfl
                  clear hc
                  have e := HV4.out
                  simp only [hp, decide_true, Bool.true_and, Nat.add_sub_cancel, List.getD_eq_getElem?_getD, List.getElem?_eq_getElem (show m < d.length by omega), Option.getD_some] at e
                  replace e := hide e
                  clear HV4
                  rcases hq : decide (d[m + 1].at_ < d[m].at_) with _ | _
                  · go_quiet (fail)
                    go_wp2
                    (go_roundw; (case rel => exact ⟨m + 2, by omega, by go_num, gr_drewN (hg.t (hg1.t hgq)) _, HO.out (e.out.trans (by rw [hq]; rfl))⟩); (case measure => simp [intOf]; omega))
                  · go_quiet (fail)
                    go_wp2_with fail
                    go_ret
                    exact ⟨ret_int (by have e2 := e.out; rw [hq, if_pos rfl] at e2; rw [HF.out (by rw [e2]; decide), e2]), gr_drewN (hg.t (hg1.t hgq)) _⟩
              · go_wp2_with (first | (go_at_call 69; refine (isMoment_any _ _).mono ?_; rintro _ _ ⟨rfl, rfl⟩; rw [h1.out]) | (go_at_call 70; refine (isLong_any _ _).mono ?_; rintro _ _ ⟨rfl, rfl⟩; rw [h3]))
                go_ret
                exact ⟨ret_int (by have e := HV3.out; rw [h3] at e; simp only [if_true] at e; rw [HF.out (by rw [e]; decide), e]), hg.t (hg1.t hgq)⟩
          · go_wp2_with (go_at_call 69; refine (isMoment_any _ _).mono ?_; rintro _ _ ⟨rfl, rfl⟩; rw [h1])
            go_ret
            exact ⟨ret_int (by have e := HV.out; rw [h1] at e; simp only [if_true] at e; rw [HF.out (by rw [e]; decide), e]), hg.t (hg1.t hgq)⟩
        · have HB : Hid (drwsF s d = 0) := by
            have : k = d.length := by omega
            subst this
            exact HE.out.trans hall.out
          go_wp2_with fail
          go_ret
          exact ⟨ret_int HB.out.symm, hg⟩
  · have HE : Hid (drwsF s d = splsF s) := by rw [Hid, HZ.out, if_pos hz0]
    obtain ⟨z, hz⟩ : ∃ z, splsF s = z := ⟨_, rfl⟩
    rw [hz] at hz0 ⊢
    have hb : (z != 0) = true := by simpa using hz0
    replace hz := hide hz
    go_wp2_with fail
    go_ret
    exact ⟨ret_int (hz.out.symm.trans HE.out.symm), hg0⟩

end Go.Proofs.YtpdhbhlnopmifaaGreatDoor

namespace Go.Proofs.YtpdhbhlnopmifaaGreatDoor
open Go Go.RowKit Go.Bl

/-- how many draws lie no later than at -/
def cutK (d : List Drw) (at_ : Int) : Nat := d.findIdx fun x => decide (at_ < x.at_)

theorem cutK_at {d : List Drw} {at_ : Int} {k : Nat} (hk : k < d.length) (h0 : ∀ i (h : i < d.length), i < k → d[i].at_ ≤ at_) (h : at_ < d[k].at_) : cutK d at_ = k := by
  unfold cutK
  rw [List.findIdx_eq hk]
  refine ⟨by simpa using h, fun i hi => ?_⟩
  have := h0 i (by omega) hi
  simp; omega

theorem cutK_all {d : List Drw} {at_ : Int} (h : ∀ i (h : i < d.length), d[i].at_ ≤ at_) : cutK d at_ = d.length := by
  unfold cutK
  rw [List.findIdx_eq_length]
  intro x hx
  obtain ⟨i, hi, rfl⟩ := List.mem_iff_getElem.1 hx
  have := h i hi
  simp; omega

theorem stepW_out {s : List Spl} {L R : List Int} {i : Nat} {x : Drw} {j : Nat} (hx : idxS s x.spool = j) (hj : j < L.length) (h : outB (L[j] - x.long) 0 1000000000 = true) : stepW s (L, R) i x = (L, R ++ [(i : Int)]) := by
  have e : L.getD j 0 = L[j] := by rw [List.getD_eq_getElem?_getD, List.getElem?_eq_getElem hj, Option.getD_some]
  unfold stepW
  simp only [hx, e, h, if_true]

theorem stepW_in {s : List Spl} {L R : List Int} {i : Nat} {x : Drw} {j : Nat} (hx : idxS s x.spool = j) (hj : j < L.length) (h : outB (L[j] - x.long) 0 1000000000 = false) : stepW s (L, R) i x = (L.set j (L[j] - x.long), R) := by
  have e : L.getD j 0 = L[j] := by rw [List.getD_eq_getElem?_getD, List.getElem?_eq_getElem hj, Option.getD_some]
  unfold stepW
  simp only [hx, e, h]
  rfl

theorem follW_succ {s : List Spl} {d : List Drw} {k : Nat} (hk : k < d.length) : follW s d (k + 1) = stepW s (follW s d k) k d[k] := by
  conv => lhs; unfold follW
  rw [List.getD_eq_getElem?_getD, List.getElem?_eq_getElem hk, Option.getD_some]

set_option maxHeartbeats 4000000 in
theorem follow_any (A : Option Addr) (c : Nat) (s : List Spl) (B : Option Addr) (e0 : Nat) (d : List Drw) (at_ : Int) (w : World) (hl : Sl w 0 A s) (hm : Sl w 0 B d) (hf : drwsF s d = 0) :
    Calls Tryz.prog 41 #[.slice A s.length c, .slice B d.length e0, .int .i64 at_] w fun e w' => ∃ A1 c1 A2 c2, e = .returned (.tuple #[.slice A1 s.length c1, .slice A2 (follW s d (cutK d at_)).2.length c2]) ∧ Own w' w.heap.size 3 A1 c1 (follW s d (cutK d at_)).1 ∧ Own w' w.heap.size 3 A2 c2 (follW s d (cutK d at_)).2 ∧ w.grownBy w' none := by
  have hdz := drwsF_zero hf
  have hs50 := (splsF_zero hdz.1).1
  have hd5 := hdz.2.1
  replace hdz := hide hdz
  have hsb := hide (follW_bd hdz.out.1 d)
  clear hf
  go_enter Tryz.func41, Tryz.ntmps41
  go_wp2_with fail
  go_loopw [6, 17] (fun L i wr => ∃ (k : Nat) (A1 : Option Addr) (c1 : Nat) (l : List Int), k ≤ s.length ∧ i = .int .i64 k ∧ L = .slice A1 l.length c1 ∧ Hid (l.length = k) ∧ Hid (l = (s.take k).map Spl.left) ∧ Own wr w.heap.size 3 A1 c1 l ∧ w.grownBy wr none) (fun _ i _ => s.length - (intOf i).toNat)
  case atStart => exact ⟨0, none, 0, [], Nat.zero_le _, rfl, rfl, rfl, by simp [Hid], Own.nil _ _ _, World.grownBy.refl _ _⟩
  case round =>
    obtain ⟨k, A1, c1, l, hk, rfl, rfl, hln, hlv, hown, hg⟩ := hrel
    by_cases hlt : k < s.length
    · have hll : l.length ≤ 50 := by have := hln.out; omega
      obtain ⟨g, o, cx, rfl, hb0, hb1, rfl, hc⟩ := (hl.pure hg).at_ (by decide) hlt
      have c0 : wr.cell? ⟨g, o + k * 3, none⟩ = some (.string s[k].key) := hc 0 _ rfl
      have c1 : wr.cell? ⟨g, o + k * 3 + 1, none⟩ = some (.string s[k].mat) := hc 1 _ rfl
      have c2 : wr.cell? ⟨g, o + k * 3 + 2, none⟩ = some (.int .i64 s[k].left) := hc 2 _ rfl
      clear hc
      have htk := take_snoc hlt
      have hgs := hg.size
      go_upto_region 4 with fail
      obtain ⟨w1, hw1⟩ : ∃ x, x = (wr).alloc (.cells [.string s[k].key, .string s[k].mat, .int .i64 s[k].left].toArray 38) := ⟨_, rfl⟩
      have hg1 : (wr).grownBy w1 none := by rw [hw1]; exact gr_alloc (World.grownBy.refl _ _) _
      have hb1 : Box w1 (wr).heap.size 38 [.string s[k].key, .string s[k].mat, .int .i64 s[k].left] := by rw [hw1]; exact Box.new _ _ _
      have hxs1 := hb1.lt
      rw [← hw1]
      clear hw1
      obtain ⟨x1, hx1⟩ : ∃ x, x = (wr).heap.size := ⟨_, rfl⟩
      rw [← hx1] at hb1 hxs1 ⊢
      have hxl1 : (wr).heap.size ≤ x1 := by omega
      clear hx1
      have hown1 := hown.pure hg1
      have ⟨b2, _⟩ := hb1.c 2 rfl
      have hgs1 := hg1.size
      clear c0 c1 c2
      go_wp2_with (at_builtin; obtain ⟨i0, hi, hz, h1, h2⟩ := info_parts info_int; refine wpList_pushAt (α := Int) _ rfl (.tmp 21) (.tmp 24) _ rfl w.heap.size 3 i0 _ 8 Tryz.underlying22 hi hz h1 h2 rfl _ _ _ l rfl ?c1 (by exact (hown1.pure (gr_alloc (World.grownBy.refl _ _) _))) 0 ⟨_, 0, none⟩ 1 1 [s[k].left] rfl rfl (by exact sl_int1 _ _ _ _ (by first | rfl | simp)) ?c2 ?c3 ?c4 ?_)
      case c1 => rfl
      case c2 => first | omega | (simp; omega)
      case c3 => first | (simp [maxLen]; omega) | (unfold maxLen; omega)
      case c4 => first | omega | (simp; omega)
      intro A5 c5 w5 hown5 hG5
      have hg5 : w.grownBy w5 none := (hG5.upd (hown1.pure (gr_alloc (World.grownBy.refl _ _) _))).gr (Nat.le_refl _) (gr_alloc (hg.t hg1) _)
      have hl5 : Hid ((l ++ [s[k].left]).length = k + 1) := by rw [Hid, List.length_append, hln.out]; rfl
      have hv5 : Hid (l ++ [s[k].left] = (s.take (k + 1)).map Spl.left) := by rw [Hid, htk, List.map_append, ← hlv.out]; rfl
      clear hG5
      have hl6 : Hid ((l ++ [s[k].left]).length = l.length + 1) := by simp [Hid]
      generalize l ++ [s[k].left] = l5 at *
      go_wp2
      (go_roundw; (case rel => exact ⟨k + 1, A5, c5, l5, by omega, by go_num, by rw [hl6.out], hl5, hv5, hown5, hg5⟩); (case measure => simp [intOf]; omega))
    · obtain rfl : k = s.length := by omega
      have hv : Hid (l = s.map Spl.left) := by rw [Hid, hlv.out, List.take_length]
      clear hlv
      go_wp2_with fail
      obtain ⟨wa, rfl⟩ : ∃ x, x = wr := ⟨wr, rfl⟩
      have hA1 : ∀ g, blk A1 = some g → g < wa.heap.size := fun g h => (hown.blk_lt h).2
      have hgs := hg.size
      rw [hln.out]
      go_loopw [7, 29] (fun R i wr => ∃ (k : Nat) (A2 : Option Addr) (c2 : Nat) (L r : List Int), k ≤ d.length ∧ i = .int .i64 k ∧ R = .slice A2 r.length c2 ∧ r.length ≤ k ∧ Hid (L.length = s.length) ∧ Hid (follW s d k = (L, r)) ∧ Own wr w.heap.size 3 A1 c1 L ∧ Own wr wa.heap.size 3 A2 c2 r ∧ w.grownBy wr none ∧ Hid (∀ i (h : i < d.length), i < k → d[i].at_ ≤ at_) ∧ wa.heap.size ≤ wr.heap.size) (fun _ i _ => d.length - (intOf i).toNat)
      case atStart => exact ⟨0, none, 0, l, [], Nat.zero_le _, rfl, rfl, Nat.zero_le _, hln, by rw [Hid, hv.out]; rfl, hown, Own.nil _ _ _, hg, fun i _ h => by omega, Nat.le_refl _⟩
      case round =>
        clear hown hg hln hv
        obtain ⟨k, A2, c2, L, r, hk, rfl, rfl, hrk, hLn, hfo, hown, hownR, hg, hall, hsz⟩ := hrel
        by_cases hlt : k < d.length
        · obtain ⟨g, o, cx, rfl, hb0, hb1, rfl, hc⟩ := (hm.pure hg).at_ (by decide) hlt
          have c0 : wr.cell? ⟨g, o + k * 3, none⟩ = some (.int .i64 d[k].at_) := hc 0 _ rfl
          have c1 : wr.cell? ⟨g, o + k * 3 + 1, none⟩ = some (.string d[k].spool) := hc 1 _ rfl
          have c2 : wr.cell? ⟨g, o + k * 3 + 2, none⟩ = some (.int .i64 d[k].long) := hc 2 _ rfl
          clear hc
          have hdk := hdz.out.2.2 _ (List.getElem_mem hlt)
          have hst := follW_succ (s := s) hlt
          rw [hfo.out] at hst
          have hLb : ∀ x ∈ L, 0 ≤ x ∧ x ≤ 1000000000 := by have := hsb.out k; rwa [hfo.out] at this
          replace hLb := hide hLb
          have hdl := hdk.2.2
          rcases hat : decide (d[k].at_ > at_) with _ | _
          · have hall2 : Hid (∀ i (h : i < d.length), i < k + 1 → d[i].at_ ≤ at_) := fun i hi h => by
              rcases Nat.lt_or_ge i k with h1 | h1
              · exact hall.out i hi h1
              · obtain rfl : i = k := by omega
                have := of_decide_eq_false hat; omega
            obtain ⟨hx, -⟩ := has_idx hdk.2.1
            have hxx := hide hdk.2.1
            obtain ⟨j, hj⟩ : ∃ j, idxS s d[k].spool = j := ⟨_, rfl⟩
            rw [hj] at hx
            have hjL : j < L.length := by have := hLn.out; omega
            have hLj := hLb.out _ (List.getElem_mem hjL)
            obtain ⟨g1, rfl, hgl, hgr⟩ := hown.shape (by omega)
            have hg1a := hA1 g1 rfl
            have cj := hown.cell_int hjL
            have fj := hown.frozen j
            replace hLn := hide hLn.out
            clear hdk hfo
            go_upto_region 9 with fail
            obtain ⟨w1, hw1⟩ : ∃ x, x = (wr).alloc (.cells [.int .i64 d[k].at_, .string d[k].spool, .int .i64 d[k].long].toArray 40) := ⟨_, rfl⟩
            have hg1 : (wr).grownBy w1 none := by rw [hw1]; exact gr_alloc (World.grownBy.refl _ _) _
            have hb1 : Box w1 (wr).heap.size 40 [.int .i64 d[k].at_, .string d[k].spool, .int .i64 d[k].long] := by rw [hw1]; exact Box.new _ _ _
            have hxs1 := hb1.lt
            rw [← hw1]
            clear hw1
            obtain ⟨x1, hx1⟩ : ∃ x, x = (wr).heap.size := ⟨_, rfl⟩
            rw [← hx1] at hb1 hxs1 ⊢
            have hxl1 : (wr).heap.size ≤ x1 := by omega
            clear hx1
            have ⟨b0, _⟩ := hb1.c 0 rfl
            have ⟨b1, _⟩ := hb1.c 1 rfl
            clear c0 c1 c2
            go_wp2_with fail
            refine (spoolAt_any _ _ _ _ _ (hl.gr (hg.t hg1) (by simp)) hdz.out.1).mono ?_
            rintro e w2 ⟨ri, rfl, hri, hg2⟩
            have hri := hri hxx.out
            rw [hj] at hri
            subst hri
            rw [hxx.out]
            have hg12 := hg1.t hg2
            have cj2 := hg12.k cj
            have fj2 := gr_froz hg12 cj (fun e => by cases e) fj
            have ⟨b2, _⟩ := (hb1.pure hg2).c 2 rfl
            have hown2 := hown.pure hg12
            have hownR2 := hownR.pure hg12
            have hsz2 := hg12.size
            replace hg := hg.t hg12
            clear b0 b1 cj fj hown hownR hg1 hg2 hb1 hg12
            rcases ho : outB (L[j] - d[k].long) 0 1000000000 with _ | _
            · have hs2 : Hid (follW s d (k + 1) = (L.set j (L[j] - d[k].long), r)) := by rw [Hid, hst, stepW_in hj hjL ho]
              replace hst := hide hst
              replace hj := hide hj
              go_upto_region 11 with fail
              go_quiet (fail)
              obtain ⟨w3, hw3⟩ : ∃ x, x = w2.drewN nq := ⟨_, rfl⟩
              have hg3 : w2.grownBy w3 none := by rw [hw3]; exact gr_drewN (World.grownBy.refl _ _) _
              rw [← hw3]
              clear hw3
              have fj3 := gr_froz hg3 cj2 (fun e => by cases e) fj2
              have cj3 := hg3.k cj2
              have hown3 := hown2.pure hg3
              have hownR3 := hownR2.pure hg3
              have hsz3 := hg3.size
              replace hg := hg.t hg3
              clear cj2 fj2 hown2 hownR2 hg3
              go_wp2_with (go_at_call 38; refine (outside_any _ _ _ _).mono ?_; rintro _ _ ⟨rfl, rfl⟩; rw [ho])
              have hownL := hown3.set_int j (L[j] - d[k].long)
              have hownR4 := hownR3.set_other (i := j) (.int .i64 (L[j] - d[k].long)) (g' := g1) (fun e => by have := (hownR3.blk_lt e).1; omega)
              have hg4 := gr_set hg (p := ⟨g1, j, none⟩) (.inr hgl) (.int .i64 (L[j] - d[k].long))
              have hL4 : Hid ((L.set j (L[j] - d[k].long)).length = s.length) := by rw [Hid, List.length_set]; exact hLn.out
              (go_roundw; (case rel => exact ⟨k + 1, A2, c2, _, r, by omega, by go_num, rfl, by omega, hL4, hs2, hownL, hownR4, hg4, hall2, by simp; omega⟩); (case measure => simp [intOf]; omega))
            · have hs2 : Hid (follW s d (k + 1) = (L, r ++ [(k : Int)])) := by rw [Hid, hst, stepW_out hj hjL ho]
              replace hst := hide hst
              replace hj := hide hj
              go_upto_region 11 with fail
              go_quiet (fail)
              obtain ⟨w3, hw3⟩ : ∃ x, x = w2.drewN nq := ⟨_, rfl⟩
              have hg3 : w2.grownBy w3 none := by rw [hw3]; exact gr_drewN (World.grownBy.refl _ _) _
              rw [← hw3]
              clear hw3
              have fj3 := gr_froz hg3 cj2 (fun e => by cases e) fj2
              have cj3 := hg3.k cj2
              have hown3 := hown2.pure hg3
              have hownR3 := hownR2.pure hg3
              have hsz3 := hg3.size
              replace hg := hg.t hg3
              clear cj2 fj2 hown2 hownR2 hg3
              go_wp2_with (first | (go_at_call 38; refine (outside_any _ _ _ _).mono ?_; rintro _ _ ⟨rfl, rfl⟩; rw [ho]) | (at_builtin; obtain ⟨i0, hi, hz, h1, h2⟩ := info_parts info_int; refine wpList_pushAt (α := Int) _ rfl (.tmp 54) (.tmp 56) _ rfl wa.heap.size 3 i0 _ 8 Tryz.underlying22 hi hz h1 h2 rfl _ _ _ r rfl ?c1 (by exact (hownR3.pure (gr_alloc (World.grownBy.refl _ _) _))) 0 ⟨_, 0, none⟩ 1 1 [(k : Int)] rfl rfl (by exact sl_int1 _ _ _ _ (by first | rfl | simp)) ?c2 ?c3 ?c4 ?_))
              case c1 => rfl
              case c2 => first | omega | (simp; omega)
              case c3 => first | (simp [maxLen]; omega) | (unfold maxLen; omega)
              case c4 => first | omega | (simp; omega)
              intro A5 c5 w5 hown5 hG5
              have hO3 := hownR3.pure (gr_alloc (World.grownBy.refl w3 none) (.cells #[.int .i64 (k : Int)] 3))
              have hL5 := (hown3.pure (gr_alloc (World.grownBy.refl w3 none) (.cells #[.int .i64 (k : Int)] 3))).ne hG5.1 (fun g' e1 e2 => by have := (hO3.blk_lt e2).1; have := hA1 g' e1; omega)
              have hg5 : w.grownBy w5 none := gr_row (gr_alloc hg _) hG5.1 (fun g' e => by have := (hO3.blk_lt e).1; omega)
              have hsz5 := hG5.1.size
              simp at hsz5
              have hl6 : Hid ((r ++ [(k : Int)]).length = r.length + 1) := by simp [Hid]
              clear hG5 hO3
              generalize r ++ [(k : Int)] = r5 at *
              go_wp2
              (go_roundw; (case rel => exact ⟨k + 1, A5, c5, L, r5, by omega, by go_num, by rw [hl6.out], by rw [hl6.out]; omega, hLn, hs2, hL5, hown5, hg5, hall2, by omega⟩); (case measure => simp [intOf]; omega))
          · have hcut : Hid (cutK d at_ = k) := cutK_at hlt hall.out (by have := of_decide_eq_true hat; omega)
            have e1 : Hid ((follW s d (cutK d at_)) = (L, r)) := by rw [Hid, hcut.out, hfo.out]
            clear hst hdk
            go_wp2_with fail
            clear c0 c1 c2
            refine bodyPost_ret (v := .tuple #[.slice A1 s.length c1, .slice A2 (follW s d (cutK d at_)).2.length c2]) (by simp [results, Tryz.results41, go_sem, e1.out]) rfl ⟨A1, c1, A2, c2, rfl, by rw [e1.out]; exact hown.pure (by repeat (first | exact World.grownBy.refl _ _ | assumption | refine gr_alloc ?_ _ | (apply gr_tail; assumption) | refine gr_drewN ?_ _ | refine gr_drew ?_)), by rw [e1.out]; exact (hownR.lower hgs).pure (by repeat (first | exact World.grownBy.refl _ _ | assumption | refine gr_alloc ?_ _ | (apply gr_tail; assumption) | refine gr_drewN ?_ _ | refine gr_drew ?_)), by exact (by repeat (first | exact World.grownBy.refl _ _ | assumption | refine gr_alloc ?_ _ | (apply gr_tail; assumption) | refine gr_drewN ?_ _ | refine gr_drew ?_))⟩
        · have hcut : Hid (cutK d at_ = d.length) := cutK_all (fun i hi => hall.out i hi (by omega))
          obtain rfl : k = d.length := by omega
          have e1 : Hid ((follW s d (cutK d at_)) = (L, r)) := by rw [Hid, hcut.out, hfo.out]
          go_wp2_with fail
          refine bodyPost_ret (v := .tuple #[.slice A1 s.length c1, .slice A2 (follW s d (cutK d at_)).2.length c2]) (by simp [results, Tryz.results41, go_sem, e1.out]) rfl ⟨A1, c1, A2, c2, rfl, by rw [e1.out]; exact hown, by rw [e1.out]; exact hownR.lower hgs, hg⟩

set_option maxHeartbeats 2000000 in
theorem refused_any (A : Option Addr) (c : Nat) (s : List Spl) (B : Option Addr) (e0 : Nat) (d : List Drw) (w : World) (hl : Sl w 0 A s) (hm : Sl w 0 B d) (hf : drwsF s d = 0) :
    Calls Tryz.prog 12 #[.slice A s.length c, .slice B d.length e0] w fun e w' => ∃ A2 c2, e = .returned (.tuple #[.slice A2 (follW s d d.length).2.length c2, .int .i64 0]) ∧ Own w' w.heap.size 3 A2 c2 (follW s d d.length).2 ∧ w.grownBy w' none := by
  have hD := drawsFault_any A c s B e0 d w hl hm
  rw [hf] at hD
  have hcut : cutK d 345686400000 = d.length := cutK_all (fun i hi => by have := ((drwsF_zero hf).2.2 _ (List.getElem_mem hi)).1.2; omega)
  replace hf := hide hf
  go_enter Tryz.func12, Tryz.ntmps12
  go_wp2_with fail
  refine hD.mono ?_
  rintro e w1 ⟨rfl, hg1⟩
  have hF := follow_any A c s B e0 d 345686400000 w1 (hl.pure hg1) (hm.pure hg1) hf.out
  rw [hcut] at hF
  clear hD hcut
  go_wp2_with fail
  refine hF.mono ?_
  rintro e w2 ⟨A1, c1, A2, c2, rfl, -, hO1, hg2⟩
  have hgs := hg1.size
  go_wp2_with fail
  go_ret2
  exact ⟨A2, c2, rfl, hO1.lower hgs, hg1.t hg2⟩

end Go.Proofs.YtpdhbhlnopmifaaGreatDoor
