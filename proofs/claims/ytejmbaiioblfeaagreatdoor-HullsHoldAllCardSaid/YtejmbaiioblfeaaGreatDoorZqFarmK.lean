/- Contracts of functions that this seat's laws reach, each: what one call returns and what it leaves in memory; no condition beyond each theorem's own hypotheses. -/
import Derived.Test.YtejmbaiioblfeaaGreatDoorZqStream
import Derived.Test.YtejmbaiioblfeaaGreatDoorZqPathA
import Derived.Test.YtejmbaiioblfeaaGreatDoorZqKit3
import Derived.Test.YtejmbaiioblfeaaGreatDoorZqFarmData
import Derived.Test.YtejmbaiioblfeaaGreatDoorShelf
import Derived.Shelf.Strings.SlTrimAscii
import Derived.Test.YtejmbaiioblfeaaGreatDoorZqJm
import Derived.Test.YtejmbaiioblfeaaGreatDoorZqNestCat
import Derived.Test.YtejmbaiioblfeaaGreatDoorZqFlowD
import Derived.Test.YtejmbaiioblfeaaGreatDoorZqPlanData
set_option linter.unusedVariables false
set_option linter.unusedSimpArgs false
namespace Go.Proofs.YtejmbaiioblfeaaGreatDoor
open Go.RowKit Go.Bl

theorem trimKey_any (s : ByteArray) (w : World) (hs : s.size ≤ 9223372036854775807) :
    Calls Tryz.prog 146 #[.string s, .string ⟨#[97, 98, 99, 100, 101, 102, 103, 104, 105, 106, 107, 108, 109, 110, 111, 112, 113, 114, 115, 116, 117, 118, 119, 120, 121, 122, 48, 49, 50, 51, 52, 53, 54, 55, 56, 57, 45, 95]⟩] w fun e w' => e = .returned (.string ⟨(Lib.trimS s.data.toList keyL).toArray⟩) ∧ w.grownBy w' none := by
  refine (Any.strings_Trim_laid Tryz.lays160 (by kernel_rfl) s _ w hs (by decide) (ascii_of_all (by decide))).mono ?_
  rintro e w' ⟨rfl, hb⟩
  exact ⟨rfl, gr_below hb⟩

theorem size_of (s : ByteArray) : s.size = s.data.toList.length := by
  rw [Array.length_toList]; rfl

theorem head_of {s : ByteArray} (h : 0 < s.size) : ∃ c t, s.data.toList = c :: t ∧ s[0] = c := by
  have hz := size_of s
  cases hd : s.data.toList with
  | nil => rw [hd] at hz; simp only [List.length_nil] at hz; omega
  | cons c t =>
    refine ⟨c, t, rfl, ?_⟩
    have : s.data.toList[0]? = some c := by rw [hd]; rfl
    have h2 : s[0] = s.data[0] := rfl
    rw [h2]
    have h3 : s.data[0]? = some c := by simpa using this
    exact Array.getElem_eq_iff.2 h3

theorem empty_of {s : ByteArray} : s.toList.isEmpty = decide (s.size = 0) := by
  have hz := size_of s
  rw [Lib.toList_data, hz]
  cases s.data.toList <;> simp

set_option maxHeartbeats 800000 in
theorem isKey_any (s : ByteArray) (w : World) :
    Calls Tryz.prog 144 #[.string s] w fun e w' => e = .returned (.bool (keyB s)) ∧ w.grownBy w' none := by
  have hemp := @empty_of s
  by_cases h0 : s.size = 0
  · have hk : keyB s = false := by simp [keyB, h0]
    rw [hk]
    simp only [h0, decide_true] at hemp
    go_enter Tryz.func144, Tryz.ntmps144
    go_wp2_with fail
    all_goals (go_ret; exact ⟨rfl, World.grownBy.refl _ _⟩)
  · have hp : 0 < s.size := by omega
    simp only [h0, decide_false] at hemp
    by_cases h1 : s.size ≤ 40
    · have hl : decide ((s.size : Int) ≤ 40) = true := by simp; omega
      obtain ⟨c, t, hd, hc⟩ := head_of hp
      have hix : (s[0].toNat : Int).toNat.toUInt8 = c := by rw [hc]; simp
      have hk : keyB s = (decide (0 ≤ Lib.indexByte smallB c) && (Lib.trimS s.data.toList keyL).isEmpty) := by simp [keyB, hp, h1, hd]
      rw [hk]
      replace hd := hide hd; replace hc := hide hc; replace hk := hide hk; replace hix := hide hix
      go_enter Tryz.func144, Tryz.ntmps144
      go_wp2_with fail
      refine (Tryz.strings_IndexByte _ _ _).mono ?_
      rintro e w' ⟨rfl, rfl⟩
      have hix2 : Lib.indexByte (⟨#[97, 98, 99, 100, 101, 102, 103, 104, 105, 106, 107, 108, 109, 110, 111, 112, 113, 114, 115, 116, 117, 118, 119, 120, 121, 122]⟩ : ByteArray).data.toList (s[0].toNat : Int).toNat.toUInt8 = Lib.indexByte smallB c := by rw [hix.out]; rfl
      rw [hix2]
      clear hix2
      obtain ⟨n, hnn⟩ : ∃ n, Lib.indexByte smallB c = n := ⟨_, rfl⟩
      rw [hnn]
      replace hnn := hide hnn
      by_cases hn : 0 ≤ n
      · have hn' : decide (n ≥ 0) = true := by simpa using hn
        go_wp2_with fail
        refine (trimKey_any _ _ (by omega)).mono ?_
        rintro e w' ⟨rfl, hg⟩
        obtain ⟨q, hqq⟩ : ∃ q, Lib.trimS s.data.toList keyL = q := ⟨_, rfl⟩
        rw [hqq]
        replace hqq := hide hqq
        go_wp2_with fail
        go_ret
        exact ⟨ret_bool (by rw [hnn.out, hqq.out]; simp [hn, empty_of, size_of]), hg⟩
      · have hn' : decide (n ≥ 0) = false := by simpa using hn
        go_wp2_with fail
        go_ret
        exact ⟨ret_bool (by rw [hnn.out]; simp; intro h; omega), World.grownBy.refl _ _⟩
    · have hl : decide ((s.size : Int) ≤ 40) = false := by simp; omega
      have hk : keyB s = false := by simp [keyB, h1]
      rw [hk]
      go_enter Tryz.func144, Tryz.ntmps144
      go_wp2_with fail
      all_goals (go_ret; exact ⟨rfl, World.grownBy.refl _ _⟩)

end Go.Proofs.YtejmbaiioblfeaaGreatDoor

namespace Go.Proofs.YtejmbaiioblfeaaGreatDoor
open Go.RowKit Go.Bl

set_option maxHeartbeats 2000000 in
theorem checkPrinters_any (A : Option Addr) (c : Nat) (l : List Prn) (w : World) (hl : Sl w 0 A l) :
    Calls Tryz.prog 139 #[.slice A l.length c] w fun e w' => e = .returned (.int .i64 (prnsF l)) ∧ w.grownBy w' none := by
  have hm := hl.1
  unfold maxLen at hm
  by_cases hz : l.length = 0
  · have HE : Hid (prnsF l = 8) := by simp [Hid, prnsF, hz]
    have hzb : ((l.length : Int) == 0) = true := by simp [hz]
    go_enter Tryz.func139, Tryz.ntmps139
    go_wp2_with fail
    go_ret
    exact ⟨ret_int HE.out.symm, (by repeat (first | exact World.grownBy.refl _ _ | assumption | refine gr_alloc ?_ _ | (apply gr_tail; assumption) | refine gr_drewN ?_ _ | refine gr_drew ?_))⟩
  · by_cases h50 : 50 < l.length
    · have HE : Hid (prnsF l = 2) := by simp [Hid, prnsF, hz, h50]
      have hd : decide ((l.length : Int) > 50) = true := by simp; omega
      go_enter Tryz.func139, Tryz.ntmps139
      go_wp2_with fail
      go_ret
      exact ⟨ret_int HE.out.symm, (by repeat (first | exact World.grownBy.refl _ _ | assumption | refine gr_alloc ?_ _ | (apply gr_tail; assumption) | refine gr_drewN ?_ _ | refine gr_drew ?_))⟩
    · have HE : Hid (prnsF l = scanN (prnF l) l.length) := by simp [Hid, prnsF, hz, h50]
      have hzb : ((l.length : Int) == 0) = false := by rw [beq_eq_false_iff_ne]; omega
      have hd : decide ((l.length : Int) > 50) = false := by simp; omega
      go_enter Tryz.func139, Tryz.ntmps139
      go_wp2_with fail
      go_loopw [13] (fun i wr => ∃ k : Nat, k ≤ l.length ∧ i = .int .i64 k ∧ w.grownBy wr none ∧ Hid (scanN (prnF l) k = 0)) (fun i _ => l.length - (intOf i).toNat)
      case atStart => exact ⟨0, Nat.zero_le _, rfl, World.grownBy.refl _ _, rfl⟩
      case round =>
        obtain ⟨k, hk, rfl, hg, hall⟩ := hrel
        by_cases hlt : k < l.length
        · have hls := hl.gr hg (by simp)
          obtain ⟨g, o, cx, rfl, hb0, hb1, rfl, hc⟩ := hls.at_ (by decide) hlt
          have c0 : wr.cell? ⟨g, o + k * 2, none⟩ = some (.string l[k].key) := hc 0 _ rfl
          have c1 : wr.cell? ⟨g, o + k * 2 + 1, none⟩ = some (.string l[k].mat) := hc 1 _ rfl
          clear hc
          replace hd := hide hd
          go_wp2_with fail
          obtain ⟨w1, hw1⟩ : ∃ x, x = (wr).alloc (.cells [.string l[k].key, .string l[k].mat].toArray 77) := ⟨_, rfl⟩
          have hg1 : (wr).grownBy w1 none := by rw [hw1]; exact gr_alloc (World.grownBy.refl _ _) _
          have hb1 : Box w1 (wr).heap.size 77 [.string l[k].key, .string l[k].mat] := by rw [hw1]; exact Box.new _ _ _
          have hxs1 := hb1.lt
          rw [← hw1]
          clear hw1
          obtain ⟨x1, hx1⟩ : ∃ x, x = (wr).heap.size := ⟨_, rfl⟩
          rw [← hx1] at hb1 hxs1 ⊢
          have hxl1 : (wr).heap.size ≤ x1 := by omega
          clear hx1
          have HF : Hid (prnF l k ≠ 0 → prnsF l = prnF l k) := fun h => HE.out.trans (scanN_at hall.out h hlt)
          have HO : Hid (prnF l k = 0 → scanN (prnF l) (k + 1) = 0) := fun h => scanN_ok hall.out h
          have HV : Hid (prnF l k = if keyB l[k].key && keyB l[k].mat then (if decide (0 < k) && leS l[k].key (l.getD (k - 1) default).key then 7 else 0) else 5) := by
            simp only [Hid, prnF, List.getD_eq_getElem?_getD, List.getElem?_eq_getElem hlt, Option.getD_some]
          clear c0 c1
          refine (isKey_any _ _).mono ?_
          rintro e w2 ⟨rfl, hg2⟩
          have b0 := ((hb1.pure hg2).c 0 rfl).1
          have b1 := ((hb1.pure hg2).c 1 rfl).1
          rcases h1 : keyB l[k].key with _ | _
          · go_wp2_with fail
            go_ret
            exact ⟨ret_int (by have e := HV.out; rw [h1] at e; simp only [Bool.false_and, Bool.false_eq_true, if_false] at e; rw [HF.out (by rw [e]; decide), e]), (by repeat (first | exact World.grownBy.refl _ _ | assumption | refine gr_alloc ?_ _ | (apply gr_tail; assumption) | refine gr_drewN ?_ _ | refine gr_drew ?_))⟩
          · go_wp2_with fail
            refine (isKey_any _ _).mono ?_
            rintro e w3 ⟨rfl, hg3⟩
            rcases h2 : keyB l[k].mat with _ | _
            · go_wp2_with fail
              go_ret
              exact ⟨ret_int (by have e := HV.out; rw [h1, h2] at e; simp only [Bool.and_false, Bool.false_eq_true, if_false] at e; rw [HF.out (by rw [e]; decide), e]), (by repeat (first | exact World.grownBy.refl _ _ | assumption | refine gr_alloc ?_ _ | (apply gr_tail; assumption) | refine gr_drewN ?_ _ | refine gr_drew ?_))⟩
            · clear b0 b1
              have b0 := ((hb1.pure (hg2.t hg3)).c 0 rfl).1
              go_wp2_with fail
              rcases k with _ | m
              · go_quiet (fail)
                go_wp2
                have e := HV.out
                simp only [h1, h2, Bool.and_self, if_true, Nat.lt_irrefl, decide_false, Bool.false_and, Bool.false_eq_true, if_false] at e
                (go_roundw; (case rel => exact ⟨1, by omega, by go_num, gr_drewN (hg.t (hg1.t (hg2.t hg3))) _, HO.out e⟩); (case measure => simp [intOf]; omega))
              · have hp : 0 < m + 1 := by omega
                have hgw : w.grownBy w3 none := hg.t (hg1.t (hg2.t hg3))
                obtain ⟨g', o', cx, e, _, _, rfl, hc⟩ := (hl.gr hgw (by simp)).at_ (by decide) (show m < l.length by omega)
                cases e
                have c0 : w3.cell? ⟨g, o + m * 2, none⟩ = some (.string l[m].key) := hc 0 _ rfl
                clear hc
                have e := HV.out
                simp only [h1, h2, Bool.and_self, if_true, hp, decide_true, Bool.true_and, Nat.add_sub_cancel, List.getD_eq_getElem?_getD, List.getElem?_eq_getElem (show m < l.length by omega), Option.getD_some] at e
                replace e := hide e
                replace HV := HV.out
                clear HV
                rcases hq : leS l[m + 1].key l[m].key with _ | _
                · have hq2 : (Op.bytesLess l[m + 1].key.toList l[m].key.toList || (l[m + 1].key.toList == l[m].key.toList)) = false := hq
                  replace hq := hide hq
                  go_quiet (fail)
                  go_wp2
                  (go_roundw; (case rel => exact ⟨m + 2, by omega, by go_num, gr_drewN (hg.t (hg1.t (hg2.t hg3))) _, HO.out (e.out.trans (by rw [hq.out]; rfl))⟩); (case measure => simp [intOf]; omega))
                · have hq2 : (Op.bytesLess l[m + 1].key.toList l[m].key.toList || (l[m + 1].key.toList == l[m].key.toList)) = true := hq
                  replace hq := hide hq
                  go_quiet (fail)
                  go_wp2_with fail
                  go_ret
                  exact ⟨ret_int (by have e2 := e.out; rw [hq.out, if_pos rfl] at e2; rw [HF.out (by rw [e2]; decide), e2]), gr_drewN (hg.t (hg1.t (hg2.t hg3))) _⟩
        · have HB : Hid (prnsF l = 0) := by
            have : k = l.length := by omega
            subst this
            exact HE.out.trans hall.out
          replace hd := hide hd
          go_wp2_with fail
          go_ret
          exact ⟨ret_int HB.out.symm, hg⟩

end Go.Proofs.YtejmbaiioblfeaaGreatDoor

namespace Go.Proofs.YtejmbaiioblfeaaGreatDoor
open Go.RowKit Go.Bl

theorem in_out (n a b : Int) : inB n a b = !outB n a b := by
  unfold inB outB; by_cases h1 : a ≤ n <;> by_cases h2 : n ≤ b <;> simp [h1, h2] <;> omega

set_option maxHeartbeats 4000000 in
theorem checkJobs_any (A : Option Addr) (c : Nat) (l : List Jb) (w : World) (hl : Sl w 0 A l) :
    Calls Tryz.prog 140 #[.slice A l.length c] w fun e w' => e = .returned (.int .i64 (jbsF l)) ∧ w.grownBy w' none := by
  have hm := hl.1
  unfold maxLen at hm
  by_cases h50 : 500 < l.length
  · have HE : Hid (jbsF l = 2) := by simp [Hid, jbsF, h50]
    have hd : decide ((l.length : Int) > 500) = true := by simp; omega
    go_enter Tryz.func140, Tryz.ntmps140
    go_wp2_with fail
    go_ret
    exact ⟨ret_int HE.out.symm, (by repeat (first | exact World.grownBy.refl _ _ | assumption | refine gr_alloc ?_ _ | (apply gr_tail; assumption) | refine gr_drewN ?_ _ | refine gr_drew ?_))⟩
  · have HE : Hid (jbsF l = scanN (jbF l) l.length) := by simp [Hid, jbsF, h50]
    have hd : decide ((l.length : Int) > 500) = false := by simp; omega
    go_enter Tryz.func140, Tryz.ntmps140
    go_wp2_with fail
    go_loopw [10] (fun i wr => ∃ k : Nat, k ≤ l.length ∧ i = .int .i64 k ∧ w.grownBy wr none ∧ Hid (scanN (jbF l) k = 0)) (fun i _ => l.length - (intOf i).toNat)
    case atStart => exact ⟨0, Nat.zero_le _, rfl, World.grownBy.refl _ _, rfl⟩
    case round =>
      obtain ⟨k, hk, rfl, hg, hall⟩ := hrel
      by_cases hlt : k < l.length
      · have hls := hl.gr hg (by simp)
        obtain ⟨g, o, cx, rfl, hb0, hb1, rfl, hc⟩ := hls.at_ (by decide) hlt
        have c0 : wr.cell? ⟨g, o + k * 4, none⟩ = some (.string l[k].key) := hc 0 _ rfl
        have c1 : wr.cell? ⟨g, o + k * 4 + 1, none⟩ = some (.string l[k].mat) := hc 1 _ rfl
        have c2 : wr.cell? ⟨g, o + k * 4 + 2, none⟩ = some (.int .i64 l[k].min) := hc 2 _ rfl
        have c3 : wr.cell? ⟨g, o + k * 4 + 3, none⟩ = some (.int .i64 l[k].due) := hc 3 _ rfl
        clear hc
        replace hd := hide hd
        go_wp2_with fail
        obtain ⟨w1, hw1⟩ : ∃ x, x = (wr).alloc (.cells [.string l[k].key, .string l[k].mat, .int .i64 l[k].min, .int .i64 l[k].due].toArray 80) := ⟨_, rfl⟩
        have hg1 : (wr).grownBy w1 none := by rw [hw1]; exact gr_alloc (World.grownBy.refl _ _) _
        have hb1 : Box w1 (wr).heap.size 80 [.string l[k].key, .string l[k].mat, .int .i64 l[k].min, .int .i64 l[k].due] := by rw [hw1]; exact Box.new _ _ _
        have hxs1 := hb1.lt
        rw [← hw1]
        clear hw1
        obtain ⟨x1, hx1⟩ : ∃ x, x = (wr).heap.size := ⟨_, rfl⟩
        rw [← hx1] at hb1 hxs1 ⊢
        have hxl1 : (wr).heap.size ≤ x1 := by omega
        clear hx1
        have HF : Hid (jbF l k ≠ 0 → jbsF l = jbF l k) := fun h => HE.out.trans (scanN_at hall.out h hlt)
        have HO : Hid (jbF l k = 0 → scanN (jbF l) (k + 1) = 0) := fun h => scanN_ok hall.out h
        have HV : Hid (jbF l k = if keyB l[k].key && keyB l[k].mat then (if outB l[k].min 1 100000 || outB l[k].due 0 1000000000 then 1 else if decide (0 < k) && leS l[k].key (l.getD (k - 1) default).key then 7 else 0) else 5) := by
          simp only [Hid, jbF, List.getD_eq_getElem?_getD, List.getElem?_eq_getElem hlt, Option.getD_some]
        clear c0 c1 c2 c3
        refine (isKey_any _ _).mono ?_
        rintro e w2 ⟨rfl, hg2⟩
        have b1 := ((hb1.pure hg2).c 1 rfl).1
        rcases h1 : keyB l[k].key with _ | _
        · go_wp2_with fail
          go_ret
          exact ⟨ret_int (by have e := HV.out; rw [h1] at e; simp only [Bool.false_and, Bool.false_eq_true, if_false] at e; rw [HF.out (by rw [e]; decide), e]), (by repeat (first | exact World.grownBy.refl _ _ | assumption | refine gr_alloc ?_ _ | (apply gr_tail; assumption) | refine gr_drewN ?_ _ | refine gr_drew ?_))⟩
        · go_wp2_with fail
          refine (isKey_any _ _).mono ?_
          rintro e w3 ⟨rfl, hg3⟩
          rcases h2 : keyB l[k].mat with _ | _
          · go_wp2_with fail
            go_ret
            exact ⟨ret_int (by have e := HV.out; rw [h1, h2] at e; simp only [Bool.and_false, Bool.false_eq_true, if_false] at e; rw [HF.out (by rw [e]; decide), e]), (by repeat (first | exact World.grownBy.refl _ _ | assumption | refine gr_alloc ?_ _ | (apply gr_tail; assumption) | refine gr_drewN ?_ _ | refine gr_drew ?_))⟩
          · clear b1
            have hb3 := hb1.pure (hg2.t hg3)
            have b0 := (hb3.c 0 rfl).1
            have b2 := (hb3.c 2 rfl).1
            have b3 := (hb3.c 3 rfl).1
            have HV2 : Hid (jbF l k = (if outB l[k].min 1 100000 || outB l[k].due 0 1000000000 then 1 else if decide (0 < k) && leS l[k].key (l.getD (k - 1) default).key then 7 else 0)) := by
              have e := HV.out; rw [h1, h2] at e; exact e
            replace h1 := hide h1
            replace h2 := hide h2
            clear HV
            rcases h3 : outB l[k].min 1 100000 with _ | _
            · rcases h4 : outB l[k].due 0 1000000000 with _ | _
              · have HV3 : Hid (jbF l k = (if decide (0 < k) && leS l[k].key (l.getD (k - 1) default).key then 7 else 0)) := by
                  have e := HV2.out; rw [h3, h4] at e; exact e
                clear HV2
                go_wp2_with (go_at_call 81; refine (outside_any _ _ _ _).mono ?_; rintro _ _ ⟨rfl, rfl⟩)
                rcases k with _ | m
                · go_quiet (fail)
                  go_wp2
                  have e := HV3.out
                  simp only [Nat.lt_irrefl, decide_false, Bool.false_and, Bool.false_eq_true, if_false] at e
                  (go_roundw; (case rel => exact ⟨1, by omega, by go_num, gr_drewN (hg.t (hg1.t (hg2.t hg3))) _, HO.out e⟩); (case measure => simp [intOf]; omega))
                · have hp : 0 < m + 1 := by omega
                  have hgw : w.grownBy w3 none := hg.t (hg1.t (hg2.t hg3))
                  obtain ⟨g', o', cx, e, _, _, rfl, hc⟩ := (hl.gr hgw (by simp)).at_ (by decide) (show m < l.length by omega)
                  cases e
                  have c0 : w3.cell? ⟨g, o + m * 4, none⟩ = some (.string l[m].key) := hc 0 _ rfl
                  clear hc
                  have e := HV3.out
                  simp only [hp, decide_true, Bool.true_and, Nat.add_sub_cancel, List.getD_eq_getElem?_getD, List.getElem?_eq_getElem (show m < l.length by omega), Option.getD_some] at e
                  replace e := hide e
                  clear HV3
                  rcases hq : leS l[m + 1].key l[m].key with _ | _
                  · have hq2 : (Op.bytesLess l[m + 1].key.toList l[m].key.toList || (l[m + 1].key.toList == l[m].key.toList)) = false := hq
                    replace hq := hide hq
                    go_quiet (fail)
                    go_wp2
                    (go_roundw; (case rel => exact ⟨m + 2, by omega, by go_num, gr_drewN (hg.t (hg1.t (hg2.t hg3))) _, HO.out (e.out.trans (by rw [hq.out]; rfl))⟩); (case measure => simp [intOf]; omega))
                  · have hq2 : (Op.bytesLess l[m + 1].key.toList l[m].key.toList || (l[m + 1].key.toList == l[m].key.toList)) = true := hq
                    replace hq := hide hq
                    go_quiet (fail)
                    go_wp2_with fail
                    go_ret
                    exact ⟨ret_int (by have e2 := e.out; rw [hq.out, if_pos rfl] at e2; rw [HF.out (by rw [e2]; decide), e2]), gr_drewN (hg.t (hg1.t (hg2.t hg3))) _⟩
              · go_wp2_with (go_at_call 81; refine (outside_any _ _ _ _).mono ?_; rintro _ _ ⟨rfl, rfl⟩)
                go_ret
                exact ⟨ret_int (by have e := HV2.out; rw [h3, h4] at e; simp only [Bool.or_true, if_true] at e; rw [HF.out (by rw [e]; decide), e]), (by repeat (first | exact World.grownBy.refl _ _ | assumption | refine gr_alloc ?_ _ | (apply gr_tail; assumption) | refine gr_drewN ?_ _ | refine gr_drew ?_))⟩
            · go_wp2_with (go_at_call 81; refine (outside_any _ _ _ _).mono ?_; rintro _ _ ⟨rfl, rfl⟩)
              go_ret
              exact ⟨ret_int (by have e := HV2.out; rw [h3] at e; simp only [Bool.true_or, if_true] at e; rw [HF.out (by rw [e]; decide), e]), (by repeat (first | exact World.grownBy.refl _ _ | assumption | refine gr_alloc ?_ _ | (apply gr_tail; assumption) | refine gr_drewN ?_ _ | refine gr_drew ?_))⟩
      · have HB : Hid (jbsF l = 0) := by
          have : k = l.length := by omega
          subst this
          exact HE.out.trans hall.out
        replace hd := hide hd
        go_wp2_with fail
        go_ret
        exact ⟨ret_int HB.out.symm, hg⟩

end Go.Proofs.YtejmbaiioblfeaaGreatDoor

namespace Go.Proofs.YtejmbaiioblfeaaGreatDoor
open Go.RowKit Go.Bl

theorem sl_inner {w : World} {A : Option Addr} {ls : List (List Int)} (hA : Sl w 0 A ls) {k : Nat} (hlt : k < ls.length) :
    ∃ g o B d, A = some ⟨g, o, none⟩ ∧ g < w.heap.size ∧ w.cell? ⟨g, o + k, none⟩ = some (.slice B ls[k].length d) ∧ Sl w 0 B ls[k] := by
  obtain ⟨g, o, cx, rfl, hb0, hb1, ⟨B, d, rfl, _, hs⟩, hc⟩ := hA.at_ (by decide) hlt
  exact ⟨g, o, B, d, rfl, hb1, by have := hc 0 _ rfl; rwa [show Enc.sz (List Int) = 1 from rfl, Nat.mul_one] at this, hs⟩

end Go.Proofs.YtejmbaiioblfeaaGreatDoor

namespace Go.Proofs.YtejmbaiioblfeaaGreatDoor
open Go.RowKit Go.Bl

set_option maxHeartbeats 800000 in
theorem fault_any (A : Option Addr) (c : Nat) (p : List Prn) (B : Option Addr) (d : Nat) (j : List Jb) (w : World) (hp : Sl w 0 A p) (hj : Sl w 0 B j) :
    Calls Tryz.prog 130 #[.slice A p.length c, .slice B j.length d] w fun e w' => e = .returned (.int .i64 (farmF p j)) ∧ w.grownBy w' none := by
  have hV : Hid (farmF p j = if prnsF p = 0 then jbsF j else prnsF p) := rfl
  go_enter Tryz.func130, Tryz.ntmps130
  go_wp2_with fail
  refine (checkPrinters_any _ _ _ _ hp).mono ?_
  rintro e w1 ⟨rfl, hg1⟩
  by_cases h0 : prnsF p = 0
  · have hb : (prnsF p != 0) = false := by simp [h0]
    replace h0 := hide h0
    go_wp2_with fail
    refine (checkJobs_any _ _ _ _ (hj.pure hg1)).mono ?_
    rintro e w2 ⟨rfl, hg2⟩
    go_wp2_with fail
    go_ret
    exact ⟨ret_int (by rw [hV.out, if_pos h0.out]), hg1.t hg2⟩
  · have hb : (prnsF p != 0) = true := by simp [h0]
    replace h0 := hide h0
    go_wp2_with fail
    go_ret
    exact ⟨ret_int (by rw [hV.out, if_neg h0.out]), hg1⟩

set_option maxHeartbeats 400000 in
theorem isChange_any (n : Int) (w : World) :
    Calls Tryz.prog 107 #[.int .i64 n] w fun e w' => e = .returned (.bool (!outB n 0 100000)) ∧ w = w' := by
  go_enter Tryz.func107, Tryz.ntmps107
  go_wp2_with (go_at_call 81; refine (outside_any _ _ _ _).mono ?_; rintro _ _ ⟨rfl, rfl⟩)
  go_ret
  exact ⟨rfl, rfl⟩

end Go.Proofs.YtejmbaiioblfeaaGreatDoor

namespace Go.Proofs.YtejmbaiioblfeaaGreatDoor
open Go.RowKit Go.Bl

theorem contains_snoc {l : List Bool} {k : Nat} (h : k < l.length) (b : Bool) : (l.take (k + 1)).contains b = ((l.take k).contains b || b == l[k]) := by
  rw [take_snoc h, Bool.eq_iff_iff]; simp only [List.contains_iff_mem, List.mem_append, List.mem_singleton, Bool.or_eq_true, beq_iff_eq]

set_option maxHeartbeats 800000 in
theorem indexBool_any (A : Option Addr) (c : Nat) (l : List Bool) (w : World) (hl : Sl w 0 A l) :
    Calls Tryz.prog 141 #[.slice A l.length c, .bool false] w fun e w' => (∃ n : Int, e = .returned (.int .i64 n) ∧ decide (n ≥ 0) = l.contains false) ∧ w.grownBy w' none := by
  have hm := hl.1
  unfold maxLen at hm
  go_enter Tryz.func141, Tryz.ntmps141
  go_wp2_with fail
  go_loopw [8] (fun i wr => ∃ k : Nat, k ≤ l.length ∧ i = .int .i64 k ∧ w.grownBy wr none ∧ Hid ((l.take k).contains false = false)) (fun i _ => l.length - (intOf i).toNat)
  case atStart => exact ⟨0, Nat.zero_le _, rfl, World.grownBy.refl _ _, by simp [Hid]⟩
  case round =>
    obtain ⟨k, hk, rfl, hg, hall⟩ := hrel
    by_cases hlt : k < l.length
    · obtain ⟨g, o, cx, rfl, hb0, hb1, rfl, hc⟩ := (hl.pure hg).at_ (by decide) hlt
      have c0 : wr.cell? ⟨g, o + k, none⟩ = some (.bool l[k]) := by have := hc 0 _ rfl; rwa [show Enc.sz Bool = 1 from rfl, Nat.mul_one] at this
      clear hc
      have HS : Hid ((l.take (k + 1)).contains false = (false == l[k])) := by rw [Hid, contains_snoc hlt, hall.out, Bool.false_or]
      have HT : Hid (l[k] = false → l.contains false = true) := fun h => List.contains_iff_mem.2 (h ▸ List.getElem_mem hlt)
      rcases hv : l[k] with _ | _
      · rw [hv] at c0
        replace HT := hide (HT.out hv)
        clear hv HS hall
        go_wp2_with fail
        go_ret
        exact ⟨⟨_, rfl, by rw [HT.out]; simp⟩, hg⟩
      · rw [hv] at c0
        replace HS := HS.out
        rw [hv] at HS
        replace HS := hide HS
        clear hv HT
        go_wp2_with fail
        (go_roundw; (case rel => exact ⟨k + 1, by omega, by go_num, hg, HS.out⟩); (case measure => simp [intOf]; omega))
    · have HB : Hid (l.contains false = false) := by have := hall.out; rwa [List.take_of_length_le (by omega)] at this
      go_wp2_with fail
      go_ret
      exact ⟨⟨_, rfl, by rw [HB.out]; simp⟩, hg⟩

set_option maxHeartbeats 800000 in
theorem containsBool_any (A : Option Addr) (c : Nat) (l : List Bool) (w : World) (hl : Sl w 0 A l) :
    Calls Tryz.prog 131 #[.slice A l.length c, .bool false] w fun e w' => e = .returned (.bool (l.contains false)) ∧ w.grownBy w' none := by
  go_enter Tryz.func131, Tryz.ntmps131
  go_wp2_with fail
  refine (indexBool_any _ _ _ _ hl).mono ?_
  rintro e w1 ⟨⟨n, rfl, hn⟩, hg⟩
  replace hn := hide hn
  go_wp2_with fail
  go_ret
  exact ⟨ret_bool hn.out, hg⟩

end Go.Proofs.YtejmbaiioblfeaaGreatDoor

namespace Go.Proofs.YtejmbaiioblfeaaGreatDoor
open Go.RowKit Go.Bl

theorem info_boolF : (Tryz.prog.info? 4).map (fun i => (i.zero, i.size, i.bytes)) = some (some (.bool false), 1, 1) := by kernel_rfl

def GoodK (n : Nat) (L : List Int) (q : Nat) : Prop := ∀ i (h : i < L.length), i < q → 0 ≤ L[i] ∧ L[i] < n ∧ memI (L.take i) L[i] = false

set_option maxHeartbeats 4000000 in
set_option maxRecDepth 100000 in
theorem checkPlan_any (A : Option Addr) (c : Nat) (p : List Prn) (B : Option Addr) (d : Nat) (j : List Jb) (C : Option Addr) (e0 : Nat) (plan : List (List Int)) (w : World) (hp : Sl w 0 A p) (hj : Sl w 0 B j) (hpl : Sl w 0 C plan) :
    Calls Tryz.prog 106 #[.slice A p.length c, .slice B j.length d, .slice C plan.length e0] w fun e w' => e = .returned (.int .i64 (planF p j plan)) ∧ w.grownBy w' none := by
  have hj1 := hj.1
  unfold maxLen at hj1
  have hpm := hpl.1
  unfold maxLen at hpm
  have hV : Hid (planF p j plan = if farmF p j ≠ 0 then farmF p j else if plan.length ≠ p.length then 3 else planK j.length plan.flatten 0) := rfl
  go_enter Tryz.func106, Tryz.ntmps106
  go_wp2_with fail
  refine (fault_any _ _ _ _ _ _ _ hp hj).mono ?_
  rintro e w1 ⟨rfl, hg1⟩
  by_cases h0 : farmF p j = 0
  · have hb : (farmF p j != 0) = false := by simp [h0]
    have hj5 : j.length ≤ 500 := by
      unfold farmF at h0
      by_cases hz : prnsF p = 0
      · rw [if_pos hz] at h0; unfold jbsF at h0
        by_cases hq : 500 < j.length
        · rw [if_pos hq] at h0; cases h0
        · omega
      · rw [if_neg hz] at h0; exact absurd h0 hz
    replace h0 := hide h0
    by_cases h1 : plan.length = p.length
    · have hb2 : ((plan.length : Int) != p.length) = false := by simp [h1]
      have hV2 : Hid (planF p j plan = planK j.length plan.flatten 0) := by rw [Hid, hV.out, if_neg (by simp [h0.out]), if_neg (by simp [h1])]
      clear hV h1
      obtain ⟨i0, hi, hz, hi1, hi2⟩ := info_parts info_boolF
      obtain ⟨w2, hrun, hoS, hg2⟩ := run_makeOwn (P := Tryz.prog) w1 162 4 i0 _ false Tryz.underlying162 hi hz hi1 rfl rfl .i64 .i64 j.length (by rw [hi2]; omega) (by simp [maxLen]; omega)
      clear hi hz hi1 hi2 i0
      rw [← seenN_nil] at hoS
      obtain ⟨gs, hgs⟩ : ∃ g, g = w1.heap.size := ⟨_, rfl⟩
      rw [← hgs] at hrun hoS
      have hgs1 : gs < w2.heap.size := (hoS.blk_lt (g := gs) rfl).2
      have hgs0 : w.heap.size ≤ gs := by rw [hgs]; exact hg1.size
      have hgw : w.grownBy w2 none := hg1.t hg2
      clear hgs
      replace hoS := hoS.lower hgs0
      obtain ⟨L, hL⟩ : ∃ L, L = plan.flatten := ⟨_, rfl⟩
      have hfa : Hid (flatK plan plan.length = L) := by rw [Hid, hL]; exact flatK_all (Nat.le_refl _)
      have hfg : Hid (∀ k m (hk : k < plan.length) (hm : m < plan[k].length), ∃ h : (flatK plan k).length + m < L.length, L[(flatK plan k).length + m] = plan[k][m]) := by rw [Hid, hL]; exact fun k m hk hm => flat_get hk hm
      rw [← hL] at hV2
      replace hL := hide hL
      go_wp2_with fail
      clear hrun hg1 hg2
      go_loopw [29] (fun i wr => ∃ k q : Nat, k ≤ plan.length ∧ i = .int .i64 k ∧ q = (flatK plan k).length ∧ Own wr w.heap.size 4 (some ⟨gs, 0, none⟩) j.length (seenN j.length (L.take q)) ∧ w.grownBy wr none ∧ Hid (planF p j plan = planK j.length L q) ∧ Hid (GoodK j.length L q)) (fun i _ => plan.length - (intOf i).toNat)
      case atStart => exact ⟨0, 0, Nat.zero_le _, rfl, rfl, hoS, hgw, hV2, fun i _ h => by omega⟩
      case round =>
        clear hoS hgw hgs1 hV2
        obtain ⟨k, q, hk, rfl, hq, hoS, hg, hX, hG⟩ := hrel
        by_cases hlt : k < plan.length
        · obtain ⟨g, o, Bk, dk, rfl, hb1, c0, hsl⟩ := sl_inner hpl hlt
          replace c0 := hg.k c0
          have hq2 : Hid ((flatK plan (k + 1)).length = q + plan[k].length) := by rw [Hid, flatK_snoc hlt, List.length_append, hq]
          have hfk : Hid (∀ m (hm : m < plan[k].length), ∃ h : q + m < L.length, L[q + m] = plan[k][m]) := by rw [hq]; exact fun m hm => hfg.out k m hlt hm
          replace hq := hide hq
          obtain ⟨pk, hpk⟩ : ∃ x, x = plan[k] := ⟨_, rfl⟩
          rw [← hpk] at c0 hsl hq2 hfk
          replace hpk := hide hpk
          have hpkm := hsl.1
          unfold maxLen at hpkm
          go_wp2_with fail
          go_loopw [35] (fun i wr => ∃ m : Nat, m ≤ pk.length ∧ i = .int .i64 m ∧ Own wr w.heap.size 4 (some ⟨gs, 0, none⟩) j.length (seenN j.length (L.take (q + m))) ∧ w.grownBy wr none ∧ Hid (planF p j plan = planK j.length L (q + m)) ∧ Hid (GoodK j.length L (q + m))) (fun i _ => pk.length - (intOf i).toNat)
          case atStart => exact ⟨0, Nat.zero_le _, rfl, hoS, hg, hX, hG⟩
          case round =>
            clear hoS hg hX hG c0
            obtain ⟨m, hmk, rfl, hoS, hg, hX, hG⟩ := hrel
            by_cases hml : m < pk.length
            · obtain ⟨hqm, hget⟩ := hfk.out m hml
              obtain ⟨g2, o2, cx, rfl, _, hb2', rfl, hc⟩ := (hsl.pure hg).at_ (by decide) hml
              have c0 : _ := hc 0 _ rfl
              rw [show Enc.sz Int = 1 from rfl, Nat.mul_one, Nat.add_zero, ← hget] at c0
              clear hc
              have hst := hide (planK_step (n := j.length) hqm)
              have hgd := hG.out
              generalize hxx : L[q + m] = x at *
              by_cases hr : x < 0 ∨ (j.length : Int) ≤ x
              · have hF : Hid (planF p j plan = 1) := by rw [Hid, hX.out, hst.out, if_pos hr]
                clear hst hX hgd hget hG
                by_cases hr1 : x < 0
                · have hd1 : decide (x < 0) = true := by simp [hr1]
                  clear hr
                  go_wp2_with fail
                  go_ret
                  exact ⟨ret_int hF.out.symm, hg⟩
                · have hd1 : decide (x < 0) = false := by simp; omega
                  have hd2 : decide (x ≥ (j.length : Int)) = true := by simp; omega
                  clear hr
                  go_wp2_with fail
                  go_ret
                  exact ⟨ret_int hF.out.symm, hg⟩
              · have hX2 : Hid (planF p j plan = if memI (L.take (q + m)) x then 6 else planK j.length L (q + m + 1)) := by rw [Hid, hX.out, hst.out, if_neg hr]
                have hd1 : decide (x < 0) = false := by simp; omega
                have hd2 : decide (x ≥ (j.length : Int)) = false := by simp; omega
                obtain ⟨i, rfl⟩ : ∃ i : Nat, x = (i : Int) := ⟨x.toNat, by omega⟩
                have hij : i < j.length := by omega
                have hlS : i < (seenN j.length (L.take (q + m))).length := by rw [seenN_len]; exact hij
                have s0 := hoS.cell_bool hlS
                have sf := hoS.frozen i
                rw [seenN_get] at s0
                clear hst hX hr hget hG
                replace hxx := hide hxx
                replace hgd := hide hgd
                rcases hv : memI (L.take (q + m)) (i : Int) with _ | _
                · rw [hv] at s0 hX2
                  have hse := seenN_set (n := j.length) hqm hxx.out
                  have hoS2 := hoS.set_bool hlS true
                  rw [← hse] at hoS2
                  have hG2 : Hid (GoodK j.length L (q + m + 1)) := fun i' hi' hlt' => by
                    by_cases e : i' = q + m
                    · subst e; rw [hxx.out]; exact ⟨by omega, by omega, hv⟩
                    · exact hgd.out i' hi' (by omega)
                  have hgs2 := gr_set hg (p := ⟨gs, i, none⟩) (.inr hgs0) (.bool true)
                  replace hX2 := hide hX2.out
                  clear hse hgd
                  go_wp2_with fail
                  (go_roundw; (case rel => exact ⟨m + 1, by omega, by go_num, hoS2, hgs2, hX2.out, hG2⟩); (case measure => simp [intOf]; omega))
                · rw [hv] at s0 hX2
                  replace hX2 := hide (hX2.out.trans (if_pos rfl))
                  go_wp2_with fail
                  go_ret
                  exact ⟨ret_int hX2.out.symm, hg⟩
            · have hm2 : m = pk.length := by omega
              subst hm2
              go_wp2_with fail
              (go_roundw; (case rel => exact ⟨k + 1, q + pk.length, by omega, by go_num, hq2.out.symm, hoS, hg, hX, hG⟩); (case measure => simp [intOf]; omega))
        · have hq3 : Hid (planF p j plan = if L.length < j.length then 8 else 0) := by
            have : q = L.length := by rw [hq, show k = plan.length by omega, hfa.out]
            rw [Hid, hX.out, this, planK_end]
          have hse : Hid ((seenN j.length (L.take q)).contains false = decide (L.length < j.length)) := by
            have : q = L.length := by rw [hq, show k = plan.length by omega, hfa.out]
            rw [Hid, this, List.take_length]
            exact seenN_all fun i hh => hG.out i hh (by omega)
          have hC := containsBool_any _ j.length _ _ (hoS.sl.mono (Nat.zero_le _))
          rw [seenN_len, hse.out] at hC
          go_wp2_with fail
          refine hC.mono ?_
          rintro e w4 ⟨rfl, hg4⟩
          by_cases hb3 : L.length < j.length
          · have hb4 : decide (L.length < j.length) = true := by simp [hb3]
            rw [hb4]
            replace hq3 := hide (hq3.out.trans (if_pos hb3))
            clear hb3 hb4
            go_wp2_with fail
            go_ret
            exact ⟨ret_int hq3.out.symm, hg.t hg4⟩
          · have hb4 : decide (L.length < j.length) = false := by simp; omega
            rw [hb4]
            replace hq3 := hide (hq3.out.trans (if_neg hb3))
            clear hb3 hb4
            go_wp2_with fail
            go_ret
            exact ⟨ret_int hq3.out.symm, hg.t hg4⟩
    · have hb2 : ((plan.length : Int) != p.length) = true := by simp; omega
      have hV2 : Hid (planF p j plan = 3) := by rw [Hid, hV.out, if_neg (by simp [h0.out]), if_pos h1]
      clear hV h1
      go_wp2_with fail
      go_ret
      exact ⟨ret_int hV2.out.symm, hg1⟩
  · have hb : (farmF p j != 0) = true := by simp [h0]
    have hV2 : Hid (planF p j plan = farmF p j) := by rw [Hid, hV.out, if_pos h0]
    clear h0 hV
    go_wp2_with fail
    go_ret
    exact ⟨ret_int hV2.out.symm, hg1⟩

end Go.Proofs.YtejmbaiioblfeaaGreatDoor

namespace Go.Proofs.YtejmbaiioblfeaaGreatDoor
open Go.RowKit Go.Bl

def plannedF (p : List Prn) (j : List Jb) (plan : List (List Int)) (ch : Int) : Int := if planF p j plan = 0 then spanF ch 0 100000 else planF p j plan

theorem spanF_outB (n a b : Int) : spanF n a b = if outB n a b then 1 else 0 := by
  rcases h : outB n a b with _ | _
  · rw [spanF_in (by rw [in_out, h]; rfl)]; rfl
  · rw [spanF_out (by rw [in_out, h]; rfl)]; rfl

set_option maxHeartbeats 1000000 in
theorem planned_any (A : Option Addr) (c : Nat) (p : List Prn) (B : Option Addr) (d : Nat) (j : List Jb) (C : Option Addr) (e0 : Nat) (plan : List (List Int)) (ch : Int) (w : World) (hp : Sl w 0 A p) (hj : Sl w 0 B j) (hpl : Sl w 0 C plan) :
    Calls Tryz.prog 79 #[.slice A p.length c, .slice B j.length d, .slice C plan.length e0, .int .i64 ch] w fun e w' => e = .returned (.int .i64 (plannedF p j plan ch)) ∧ w.grownBy w' none := by
  have hV : Hid (plannedF p j plan ch = if planF p j plan = 0 then spanF ch 0 100000 else planF p j plan) := rfl
  go_enter Tryz.func79, Tryz.ntmps79
  go_wp2_with fail
  refine (checkPlan_any _ _ _ _ _ _ _ _ _ _ hp hj hpl).mono ?_
  rintro e w1 ⟨rfl, hg1⟩
  by_cases h0 : planF p j plan = 0
  · have hb : (planF p j plan != 0) = false := by simp [h0]
    rw [if_pos h0, spanF_outB] at hV
    replace h0 := hide h0
    rcases h1 : outB ch 0 100000 with _ | _
    · rw [h1] at hV
      go_wp2_with (go_at_call 107; refine (isChange_any _ _).mono ?_; rintro _ _ ⟨rfl, rfl⟩; rw [h1])
      go_ret
      exact ⟨ret_int hV.out.symm, hg1⟩
    · rw [h1] at hV
      go_wp2_with (go_at_call 107; refine (isChange_any _ _).mono ?_; rintro _ _ ⟨rfl, rfl⟩; rw [h1])
      go_ret
      exact ⟨ret_int hV.out.symm, hg1⟩
  · have hb : (planF p j plan != 0) = true := by simp [h0]
    rw [if_neg h0] at hV
    clear h0
    go_wp2_with fail
    go_ret
    exact ⟨ret_int hV.out.symm, hg1⟩

end Go.Proofs.YtejmbaiioblfeaaGreatDoor

namespace Go.Proofs.YtejmbaiioblfeaaGreatDoor
open Go.RowKit Go.Bl

/-- a job is done by a clock -/
def doC (a : Int × ByteArray) (x : Jb) (ch : Int) : Int × ByteArray := (a.1 + (if a.2 = x.mat then 0 else ch) + x.min, x.mat)

theorem toList_inj {a b : ByteArray} (h : a.toList = b.toList) : a = b := by
  rw [Lib.toList_data, Lib.toList_data] at h
  exact ByteArray.ext (Array.toList_inj.1 h)

set_option maxHeartbeats 1000000 in
theorem clockDo_any (n : Int) (m : ByteArray) (x : Jb) (ch : Int) (w : World) (h0 : 0 ≤ n ∧ n ≤ 1000000000) (h1 : 0 ≤ ch ∧ ch ≤ 1000000) (h2 : 0 ≤ x.min ∧ x.min ≤ 1000000) :
    Calls Tryz.prog 108 #[.agg #[.int .i64 n, .string m], .agg #[.string x.key, .string x.mat, .int .i64 x.min, .int .i64 x.due], .int .i64 ch] w fun e w' => e = .returned (.agg #[.int .i64 (doC (n, m) x ch).1, .string (doC (n, m) x ch).2]) ∧ w.grownBy w' none := by
  by_cases hm : m = x.mat
  · have hV : doC (n, m) x ch = (n + x.min, x.mat) := by simp [doC, hm]
    have hb : (m.toList == x.mat.toList) = true := by simp [hm]
    rw [hV]
    go_enter Tryz.func108, Tryz.ntmps108
    go_wp2_with fail
    refine bodyPost_ret (v := .agg #[.int .i64 (n + x.min), .string x.mat]) (by simp [results, Tryz.results108, go_sem]) rfl ⟨rfl, ?_⟩
    exact (by repeat (first | exact World.grownBy.refl _ _ | assumption | refine gr_alloc ?_ _ | (apply gr_tail; assumption) | refine gr_drewN ?_ _ | refine gr_drew ?_))
  · have hV : doC (n, m) x ch = (n + ch + x.min, x.mat) := by simp [doC, hm]
    have hb : (m.toList == x.mat.toList) = false := by simp; exact fun e => hm (toList_inj e)
    rw [hV]
    go_enter Tryz.func108, Tryz.ntmps108
    go_wp2_with fail
    refine bodyPost_ret (v := .agg #[.int .i64 (n + ch + x.min), .string x.mat]) (by simp [results, Tryz.results108, go_sem]) rfl ⟨rfl, ?_⟩
    exact (by repeat (first | exact World.grownBy.refl _ _ | assumption | refine gr_alloc ?_ _ | (apply gr_tail; assumption) | refine gr_drewN ?_ _ | refine gr_drew ?_))

end Go.Proofs.YtejmbaiioblfeaaGreatDoor

namespace Go.Proofs.YtejmbaiioblfeaaGreatDoor
open Go Go.RowKit Go.Bl

def jobAt (j : List Jb) (i : Int) : Jb := j.getD i.toNat default
/-- the ends of a row of jobs, from a clock on -/
def rowC (j : List Jb) (ch : Int) (c : Int × ByteArray) : List Int → List (Int × Int)
  | [] => []
  | i :: r => (i, (doC c (jobAt j i) ch).1) :: rowC j ch (doC c (jobAt j i) ch) r

def clkC (j : List Jb) (ch : Int) (c : Int × ByteArray) (row : List Int) : Int × ByteArray := row.foldl (fun c i => doC c (jobAt j i) ch) c

def rowP (p : List Prn) (j : List Jb) (ch : Int) (plan : List (List Int)) (k : Nat) : List (Int × Int) := rowC j ch (0, (p.getD k default).mat) (plan.getD k [])

def pairsK (p : List Prn) (j : List Jb) (plan : List (List Int)) (ch : Int) (k : Nat) : List (Int × Int) := ((List.range k).map (rowP p j ch plan)).flatten

def outO (n : Nat) (L : List (Int × Int)) : List Int := L.foldl (fun o q => o.set q.1.toNat q.2) (List.replicate n 0)

def lastO (L : List (Int × Int)) : Int := L.foldl (fun a q => max a q.2) 0

def endsF (p : List Prn) (j : List Jb) (plan : List (List Int)) (ch : Int) : List Int := outO j.length (pairsK p j plan ch plan.length)

def endF (p : List Prn) (j : List Jb) (plan : List (List Int)) (ch : Int) : Int := lastO (pairsK p j plan ch plan.length)

theorem rowC_append (j : List Jb) (ch : Int) : ∀ (c : Int × ByteArray) (a b : List Int), rowC j ch c (a ++ b) = rowC j ch c a ++ rowC j ch (clkC j ch c a) b
  | _, [], _ => rfl
  | c, i :: a, b => by simp only [List.cons_append, rowC, rowC_append j ch _ a b]; rfl

theorem rowC_snoc (j : List Jb) (ch : Int) (c : Int × ByteArray) (a : List Int) (i : Int) : rowC j ch c (a ++ [i]) = rowC j ch c a ++ [(i, (doC (clkC j ch c a) (jobAt j i) ch).1)] := by rw [rowC_append]; rfl

theorem clkC_snoc (j : List Jb) (ch : Int) (c : Int × ByteArray) (a : List Int) (i : Int) : clkC j ch c (a ++ [i]) = doC (clkC j ch c a) (jobAt j i) ch := by simp [clkC]

theorem outO_snoc (n : Nat) (L : List (Int × Int)) (q : Int × Int) : outO n (L ++ [q]) = (outO n L).set q.1.toNat q.2 := by simp [outO]

theorem lastO_snoc (L : List (Int × Int)) (q : Int × Int) : lastO (L ++ [q]) = max (lastO L) q.2 := by simp [lastO]

theorem outO_len (n : Nat) (L : List (Int × Int)) : (outO n L).length = n := by
  have : ∀ (L : List (Int × Int)) (o : List Int), (L.foldl (fun o q => o.set q.1.toNat q.2) o).length = o.length := by
    intro L; induction L with
    | nil => intro o; rfl
    | cons q L ih => intro o; rw [List.foldl_cons, ih, List.length_set]
  simp [outO, this]

theorem pairsK_succ (p : List Prn) (j : List Jb) (plan : List (List Int)) (ch : Int) (k : Nat) : pairsK p j plan ch (k + 1) = pairsK p j plan ch k ++ rowP p j ch plan k := by
  unfold pairsK; rw [List.range_succ, List.map_append, List.flatten_append]; simp

theorem jobAt_nat {j : List Jb} {i : Nat} (h : i < j.length) : jobAt j i = j[i] := by unfold jobAt; rw [Int.toNat_natCast]; simp [List.getD, h]

/-- what is asked of printers, jobs, plans and changes that are right -/
structure JOk (j : List Jb) (ch : Int) : Prop where
  len : j.length ≤ 500
  bd : ∀ x ∈ j, 1 ≤ x.min ∧ x.min ≤ 100000 ∧ 0 ≤ x.due ∧ x.due ≤ 1000000000
  chg : 0 ≤ ch ∧ ch ≤ 100000

structure POk (p : List Prn) (j : List Jb) (plan : List (List Int)) (ch : Int) : Prop extends JOk j ch where
  row : plan.length = p.length
  few : plan.flatten.length ≤ 500
  ix : ∀ i ∈ plan.flatten, 0 ≤ i ∧ i < j.length

theorem scanN_zero {f : Nat → Int} : ∀ {n : Nat}, scanN f n = 0 → ∀ k, k < n → f k = 0
  | 0, _, k, hk => by omega
  | n + 1, h, k, hk => by
    by_cases e : scanN f n = 0
    · have hn : f n = 0 := by simpa [scanN, e] using h
      by_cases he : k = n
      · rw [he]; exact hn
      · exact scanN_zero e k (by omega)
    · simp [scanN, e] at h

theorem jok_of {p : List Prn} {j : List Jb} {ch : Int} (h : farmF p j = 0) (hc : spanF ch 0 100000 = 0) : JOk j ch := by
  have h2 : jbsF j = 0 := by
    unfold farmF at h
    by_cases hz : prnsF p = 0
    · rw [if_pos hz] at h; exact h
    · rw [if_neg hz] at h; exact absurd h hz
  unfold jbsF at h2
  have hlen : j.length ≤ 500 := by
    by_cases hq : 500 < j.length
    · rw [if_pos hq] at h2; cases h2
    · omega
  rw [if_neg (by omega)] at h2
  refine ⟨hlen, fun x hx => ?_, ?_⟩
  · obtain ⟨k, hk, rfl⟩ := List.getElem_of_mem hx
    have := scanN_zero h2 k hk
    unfold jbF at this
    have e : j.getD k default = j[k] := by simp [List.getD, hk]
    rw [e] at this
    by_cases h1 : (keyB j[k].key && keyB j[k].mat) = true
    · rw [if_pos h1] at this
      by_cases h3 : (outB j[k].min 1 100000 || outB j[k].due 0 1000000000) = true
      · rw [if_pos h3] at this; cases this
      · simp [outB] at h3; omega
    · rw [if_neg h1] at this; cases this
  · rw [spanF_outB] at hc
    by_cases ho : outB ch 0 100000 = true
    · rw [if_pos ho] at hc; cases hc
    · simp [outB] at ho; omega

theorem planIn_zero (n : Nat) : ∀ (L T : List Int), planIn n T L = 0 → ∀ i (h : i < L.length), 0 ≤ L[i] ∧ L[i] < n ∧ memI (T ++ L.take i) L[i] = false
  | [], _, _, i, h => by simp at h
  | k :: r, T, h, i, hi => by
    unfold planIn at h
    by_cases h1 : k < 0 ∨ (n : Int) ≤ k
    · rw [if_pos h1] at h; cases h
    · rw [if_neg h1] at h
      rcases hm : memI T k with _ | _
      · rw [hm] at h
        have ih := planIn_zero n r (T ++ [k]) h
        rcases i with _ | i
        · simp [hm]; omega
        · have := ih i (by simpa using hi)
          simpa using this
      · rw [hm] at h; cases h

theorem planK_good {n : Nat} {L : List Int} (h : planK n L 0 = 0) : ∀ i (h : i < L.length), 0 ≤ L[i] ∧ L[i] < n ∧ memI (L.take i) L[i] = false := by
  intro i hi
  have := planIn_zero n L [] (by simpa [planK] using h) i hi
  simpa using this

theorem planK_few {n : Nat} {L : List Int} (h : planK n L 0 = 0) : L.length ≤ n := by
  have hg := planK_good h
  have hc := seenN_count (n := n) (L := L) (Nat.le_refl _) (fun i hh _ => hg i hh)
  rw [List.take_length] at hc
  have := List.count_le_length (a := true) (l := seenN n L)
  rw [hc, seenN_len] at this
  exact this

theorem pok_of {p : List Prn} {j : List Jb} {plan : List (List Int)} {ch : Int} (h : plannedF p j plan ch = 0) : POk p j plan ch := by
  unfold plannedF at h
  by_cases h0 : planF p j plan = 0
  · rw [if_pos h0] at h
    unfold planF at h0
    by_cases h1 : farmF p j = 0
    · rw [if_neg (by simp [h1])] at h0
      by_cases h2 : plan.length = p.length
      · rw [if_neg (by simp [h2])] at h0
        have hj := jok_of h1 h
        exact { toJOk := hj, row := h2, few := Nat.le_trans (planK_few h0) hj.len, ix := fun i hi => by
                  obtain ⟨k, hk, rfl⟩ := List.getElem_of_mem hi
                  exact ⟨(planK_good h0 k hk).1, (planK_good h0 k hk).2.1⟩ }
      · rw [if_pos (by simpa using h2)] at h0; cases h0
    · rw [if_pos (by simpa using h1)] at h0; exact absurd h0 h1
  · rw [if_neg h0] at h; exact absurd h h0

theorem doC_bd {j : List Jb} {ch : Int} (h : JOk j ch) {c : Int × ByteArray} {i : Int} (hi : 0 ≤ i ∧ i < j.length) {N : Int} (hc : 0 ≤ c.1 ∧ c.1 ≤ N) : 0 ≤ (doC c (jobAt j i) ch).1 ∧ (doC c (jobAt j i) ch).1 ≤ N + 200000 := by
  obtain ⟨k, rfl⟩ := Int.eq_ofNat_of_zero_le hi.1
  have hk : k < j.length := by omega
  rw [jobAt_nat hk]
  have hb := h.bd _ (List.getElem_mem hk)
  have hch := h.chg
  unfold doC
  by_cases hm : c.2 = j[k].mat
  · rw [if_pos hm]; simp only; omega
  · rw [if_neg hm]; simp only; omega

theorem clkC_bd {j : List Jb} {ch : Int} (h : JOk j ch) : ∀ (row : List Int) (_ : ∀ i ∈ row, 0 ≤ i ∧ i < (j.length : Int)) (c : Int × ByteArray) {N : Int} (_ : 0 ≤ c.1 ∧ c.1 ≤ N), 0 ≤ (clkC j ch c row).1 ∧ (clkC j ch c row).1 ≤ N + 200000 * row.length
  | [], _, c, N, hc => by unfold clkC; simpa using hc
  | i :: r, hr, c, N, hc => by
    have h1 := doC_bd h (hr i (by simp)) hc
    have := clkC_bd h r (fun k hk => hr k (by simp [hk])) (doC c (jobAt j i) ch) h1
    rw [show clkC j ch c (i :: r) = clkC j ch (doC c (jobAt j i) ch) r from rfl, List.length_cons]
    constructor
    · exact this.1
    · have := this.2; push_cast; omega

theorem row_in {plan : List (List Int)} {k : Nat} (hk : k < plan.length) : ∀ i ∈ plan[k], i ∈ plan.flatten := fun i hi => List.mem_flatten.2 ⟨_, List.getElem_mem hk, hi⟩

theorem row_len {plan : List (List Int)} {k : Nat} (hk : k < plan.length) : plan[k].length ≤ plan.flatten.length := by
  have e : plan.flatten = flatK plan k ++ (plan[k] ++ (plan.drop (k + 1)).flatten) := by
    unfold flatK
    conv => lhs; rw [← List.take_append_drop k plan, List.flatten_append, List.drop_eq_getElem_cons hk, List.flatten_cons]
  rw [e]; simp; omega

end Go.Proofs.YtejmbaiioblfeaaGreatDoor

namespace Go.Proofs.YtejmbaiioblfeaaGreatDoor
open Go Go.RowKit Go.Bl

set_option maxHeartbeats 4000000 in
set_option maxRecDepth 100000 in
theorem endsJ_any (A : Option Addr) (c : Nat) (p : List Prn) (B : Option Addr) (d : Nat) (j : List Jb) (C : Option Addr) (e0 : Nat) (plan : List (List Int)) (ch : Int) (w : World) (hp : Sl w 0 A p) (hj : Sl w 0 B j) (hpl : Sl w 0 C plan) (hok : POk p j plan ch) :
    Calls Tryz.prog 80 #[.slice A p.length c, .slice B j.length d, .slice C plan.length e0, .int .i64 ch] w fun e w' => ∃ g, e = .returned (.tuple #[.slice (some ⟨g, 0, none⟩) j.length j.length, .int .i64 (endF p j plan ch)]) ∧ Own w' w.heap.size 3 (some ⟨g, 0, none⟩) j.length (endsF p j plan ch) ∧ w.grownBy w' none := by
  have hj5 := hok.len
  have hch := hok.chg
  have hrw := hok.row
  have hpm := hpl.1
  unfold maxLen at hpm
  obtain ⟨i0, hi, hz, hi1, hi2⟩ := info_parts info_int
  obtain ⟨w2, hrun, hoO, hg2⟩ := run_makeOwn (P := Tryz.prog) w 22 3 i0 _ (0 : Int) Tryz.underlying22 hi hz hi1 rfl rfl .i64 .i64 j.length (by rw [hi2]; omega) (by simp [maxLen]; omega)
  clear hi hz hi1 hi2 i0
  obtain ⟨gs, hgs⟩ : ∃ g, g = w.heap.size := ⟨_, rfl⟩
  rw [← hgs] at hrun hoO
  have hgs0 : w.heap.size ≤ gs := by omega
  clear hgs
  replace hoO := hoO.lower hgs0
  replace hok := hide hok
  go_enter Tryz.func80, Tryz.ntmps80
  go_wp2_with fail
  clear hrun
  go_loopw [11, 22] (fun l i wr => ∃ k : Nat, k ≤ plan.length ∧ i = .int .i64 k ∧ l = .int .i64 (lastO (pairsK p j plan ch k)) ∧ Own wr w.heap.size 3 (some ⟨gs, 0, none⟩) j.length (outO j.length (pairsK p j plan ch k)) ∧ w.grownBy wr none) (fun _ i _ => plan.length - (intOf i).toNat)
  case atStart => exact ⟨0, Nat.zero_le _, rfl, rfl, hoO, hg2⟩
  case round =>
    clear hoO hg2
    obtain ⟨k, hk, rfl, rfl, hoO, hg⟩ := hrel
    by_cases hlt : k < plan.length
    · obtain ⟨g, o, Bk, dk, rfl, hb1, c0, hsl⟩ := sl_inner hpl hlt
      replace c0 := hg.k c0
      have hpk : k < p.length := by omega
      clear hrw
      obtain ⟨ga, oa, cx, rfl, _, hb2, rfl, hc⟩ := (hp.pure hg).at_ (by decide) hpk
      have d0 : wr.cell? ⟨ga, oa + k * 2, none⟩ = some (.string p[k].key) := hc 0 _ rfl
      have d1 : wr.cell? ⟨ga, oa + k * 2 + 1, none⟩ = some (.string p[k].mat) := hc 1 _ rfl
      clear hc
      have hps : pairsK p j plan ch (k + 1) = pairsK p j plan ch k ++ rowC j ch (0, p[k].mat) plan[k] := by rw [pairsK_succ]; unfold rowP; simp [List.getD, hlt, hpk]
      replace hps := hide hps
      have hin := hide (fun i hi => hok.out.ix i (row_in hlt i hi))
      have hln := hide (Nat.le_trans (row_len hlt) hok.out.few)
      obtain ⟨row, hrow⟩ : ∃ x, x = plan[k] := ⟨_, rfl⟩
      rw [← hrow] at c0 hsl hps hin hln
      clear hrow
      have hrm := hln.out
      generalize hPk : pairsK p j plan ch k = Pk at *
      clear hPk
      go_upto_region 7 with fail
      obtain ⟨w0, hw0⟩ : ∃ x, x = (wr).alloc (.cells [.int .i64 0, .string p[k].mat].toArray 143) := ⟨_, rfl⟩
      have hg0 : (wr).grownBy w0 none := by rw [hw0]; exact gr_alloc (World.grownBy.refl _ _) _
      have hb0 : Box w0 (wr).heap.size 143 [.int .i64 0, .string p[k].mat] := by rw [hw0]; exact Box.new _ _ _
      have hxs0 := hb0.lt
      rw [← hw0]
      clear hw0
      obtain ⟨x0, hx0⟩ : ∃ x, x = (wr).heap.size := ⟨_, rfl⟩
      rw [← hx0] at hb0 hxs0 ⊢
      have hxl0 : (wr).heap.size ≤ x0 := by omega
      clear hx0
      replace c0 := hg0.k c0
      have hx0 : w.heap.size ≤ x0 := Nat.le_trans hg.size hxl0
      replace hoO := hoO.pure hg0
      replace hg := gr_trans hg hg0
      clear hg0 d0 d1
      generalize hmt : p[k].mat = mat at *
      clear hmt
      go_wp2_with fail
      go_loopw [11, 35] (fun l i wr => ∃ m : Nat, m ≤ row.length ∧ i = .int .i64 m ∧ l = .int .i64 (lastO (Pk ++ rowC j ch (0, mat) (row.take m))) ∧ Own wr w.heap.size 3 (some ⟨gs, 0, none⟩) j.length (outO j.length (Pk ++ rowC j ch (0, mat) (row.take m))) ∧ Box wr x0 143 [.int .i64 (clkC j ch (0, mat) (row.take m)).1, .string (clkC j ch (0, mat) (row.take m)).2] ∧ w.grownBy wr none) (fun _ i _ => row.length - (intOf i).toNat)
      case atStart => exact ⟨0, Nat.zero_le _, rfl, by simp [rowC], by simpa [rowC] using hoO, hb0, hg⟩
      case round =>
        clear hoO hg hb0 c0
        obtain ⟨m, hmk, rfl, rfl, hoO, hb0, hg⟩ := hrel
        by_cases hml : m < row.length
        · obtain ⟨g2, o2, cx, rfl, _, hb2', rfl, hc⟩ := (hsl.pure hg).at_ (by decide) hml
          have r0 : _ := hc 0 _ rfl
          rw [show Enc.sz Int = 1 from rfl, Nat.mul_one, Nat.add_zero] at r0
          clear hc
          have hri := hin.out _ (List.getElem_mem hml)
          obtain ⟨x, hx⟩ := Int.eq_ofNat_of_zero_le hri.1
          have hxl : x < j.length := by omega
          have htk := take_snoc hml
          have hps2 : Hid (Pk ++ rowC j ch (0, mat) (row.take (m + 1)) = (Pk ++ rowC j ch (0, mat) (row.take m)) ++ [((x : Int), (doC (clkC j ch (0, mat) (row.take m)) j[x] ch).1)]) := by rw [Hid, htk, rowC_snoc, List.append_assoc, hx, jobAt_nat hxl]
          have hck2 : Hid (clkC j ch (0, mat) (row.take (m + 1)) = doC (clkC j ch (0, mat) (row.take m)) j[x] ch) := by rw [Hid, htk, clkC_snoc, hx, jobAt_nat hxl]
          have hbd := clkC_bd hok.out.toJOk (row.take m) (fun i hi => hin.out i (List.mem_of_mem_take hi)) (0, mat) (N := 0) (by simp)
          rw [List.length_take, Nat.min_eq_left hmk] at hbd
          obtain ⟨gj, oj, cx, rfl, _, hbj, rfl, hc⟩ := (hj.pure hg).at_ (by decide) hxl
          have hjb := hok.out.bd _ (List.getElem_mem hxl)
          rw [hx] at r0
          clear htk hri hx
          generalize hQ : Pk ++ rowC j ch (0, mat) (row.take m) = Q at *
          generalize hcl : clkC j ch (0, mat) (row.take m) = cl at *
          clear hQ hcl
          obtain ⟨cle, clm⟩ := cl
          have xb := hbd.1
          have xb2 := hbd.2
          simp only at xb xb2
          have j0 : wr.cell? ⟨gj, oj + x * 4, none⟩ = some (.string j[x].key) := hc 0 _ rfl
          have j1 : wr.cell? ⟨gj, oj + x * 4 + 1, none⟩ = some (.string j[x].mat) := hc 1 _ rfl
          have j2 : wr.cell? ⟨gj, oj + x * 4 + 2, none⟩ = some (.int .i64 j[x].min) := hc 2 _ rfl
          have j3 : wr.cell? ⟨gj, oj + x * 4 + 3, none⟩ = some (.int .i64 j[x].due) := hc 3 _ rfl
          clear hc
          generalize hY : j[x] = Y at *
          have hcd := clockDo_any cle clm Y ch
          obtain ⟨z, hz⟩ : ∃ z, z = doC (cle, clm) Y ch := ⟨_, rfl⟩
          rw [← hz] at hcd hck2 hps2
          clear hz
          go_upto_region 10 with fail
          refine wp_region_tree (fun wx => wr.grownBy wx none) [1, 2, 2, 2, 1, 2, 0, 0] (.bl 0 (.bl 1 (.bl 2 (.bl 3 (.bl 4 (.bl 5 (.ef 6 (.ef 7 .done)))))))) (by kernel_rfl) (by kernel_rfl) (gr_drew (World.grownBy.refl _ _)) ?_
          obtain ⟨W1, hW1⟩ : ∃ x, x = (wr).drew := ⟨_, rfl⟩
          rw [← hW1]
          have hgW1 : (wr).grownBy W1 none := by rw [hW1]; exact gr_drew (World.grownBy.refl _ _)
          clear hW1
          refine tree_b rfl rfl rfl rfl _ rfl (by simp) (fun K hK => ?_)
          apply Exists.intro
          refine ⟨fun wq hq K' hK' => ?_, ?_⟩
          · have jj0 := hq.k j0
            have jj1 := hq.k j1
            have jj2 := hq.k j2
            have jj3 := hq.k j3
            have ⟨bb0, _⟩ := (hb0.pure hq).c 0 rfl
            have ⟨bb1, _⟩ := (hb0.pure hq).c 1 rfl
            go_wp2_with fail
            exact hK'
          go_simp
          refine hK _ ?_
          clear hK K
          refine tree_p rfl rfl rfl rfl _ rfl (by simp) (fun K hK => ?_)
          apply Exists.intro
          refine ⟨fun wq K' hK' => ?_, ?_⟩
          · go_wp2_with fail
            exact hK'
          go_simp
          refine hK _ ?_
          clear hK K
          refine tree_p rfl rfl rfl rfl _ rfl (by simp) (fun K hK => ?_)
          apply Exists.intro
          refine ⟨fun wq K' hK' => ?_, ?_⟩
          · go_wp2_with fail
            exact hK'
          go_simp
          refine hK _ ?_
          clear hK K
          refine tree_p rfl rfl rfl rfl _ rfl (by simp) (fun K hK => ?_)
          apply Exists.intro
          refine ⟨fun wq K' hK' => ?_, ?_⟩
          · go_wp2_with fail
            exact hK'
          go_simp
          refine hK _ ?_
          clear hK K
          refine tree_b rfl rfl rfl rfl _ rfl (by simp) (fun K hK => ?_)
          apply Exists.intro
          refine ⟨fun wq hq K' hK' => ?_, ?_⟩
          · have jj0 := hq.k j0
            have jj1 := hq.k j1
            have jj2 := hq.k j2
            have jj3 := hq.k j3
            have ⟨bb0, _⟩ := (hb0.pure hq).c 0 rfl
            have ⟨bb1, _⟩ := (hb0.pure hq).c 1 rfl
            go_wp2_with fail
            exact hK'
          go_simp
          refine hK _ ?_
          clear hK K
          refine tree_p rfl rfl rfl rfl _ rfl (by simp) (fun K hK => ?_)
          apply Exists.intro
          refine ⟨fun wq K' hK' => ?_, ?_⟩
          · go_wp2_with fail
            exact hK'
          go_simp
          refine hK _ ?_
          clear hK K
          refine tree_e0 (by kernel_rfl) rfl rfl (fun K hK => ?_)
          go_wp2_with fail
          refine (hcd W1 ?_ ?_ ?_).mono ?_
          · omega
          · omega
          · omega
          rintro e w6 ⟨rfl, hg6⟩
          have hg6w := gr_trans hgW1 hg6
          go_wp2_with fail
          try go_simp
          refine hK _ _ trivial ?_
          clear hK K
          refine tree_e0 (by kernel_rfl) rfl rfl (fun K hK => ?_)
          have hb6 := hb0.pure hg6w
          obtain ⟨y0, z0⟩ := hb6.c 0 rfl
          obtain ⟨y1, z1⟩ := hb6.c 1 rfl
          go_wp2_with fail
          try go_simp
          refine hK _ _ trivial ?_
          clear hK K
          refine tree_done ?_
          have hoO6 := hoO.pure hg6w
          have hne := hb6.ne_own hoO6 (by decide)
          obtain ⟨w8, hw8⟩ : ∃ x, x = (w6.setCell ⟨x0, 0, none⟩ (.int .i64 z.1)).setCell ⟨x0, 1, none⟩ (.string z.2) := ⟨_, rfl⟩
          have hb8 : Box w8 x0 143 [.int .i64 z.1, .string z.2] := by rw [hw8]; exact (hb6.set_ 0 _ (by simp)).set_ 1 _ (by simp)
          have hoO8 : Own w8 w.heap.size 3 (some ⟨gs, 0, none⟩) j.length (outO j.length Q) := by rw [hw8]; exact (hoO6.set_other _ hne).set_other _ hne
          have hg8 : w.grownBy w8 none := by rw [hw8]; exact gr_set (gr_set (gr_trans hg hg6w) (.inr hx0) _) (.inr hx0) _
          rw [← hw8]
          clear hw8 y0 y1 z0 z1 hb6 hoO6 hg6w hg6 hgW1 hcd j0 j1 j2 j3 r0 hb0 hg hoO hY hjb xb xb2 hbd hne
          obtain ⟨y0, z0⟩ := hb8.c 0 rfl
          obtain ⟨y1, z1⟩ := hb8.c 1 rfl
          have hlO : x < (outO j.length Q).length := by rw [outO_len]; exact hxl
          have o0 := hoO8.cell_int hlO
          have of := hoO8.frozen x
          have hoO9 := hoO8.set_int x z.1
          have hb9 := hb8.set_other (g' := gs) (i := x) (.int .i64 z.1) (fun e => hb8.ne_own hoO8 (by decide) (by rw [e]; rfl))
          have hg9 := gr_set hg8 (p := ⟨gs, x, none⟩) (.inr hgs0) (.int .i64 z.1)
          obtain ⟨y2, z2⟩ := hb9.c 0 rfl
          obtain ⟨y3, z3⟩ := hb9.c 1 rfl
          go_wp2_with fail
          (go_roundw; (case rel => exact ⟨m + 1, by omega, by go_num, by rw [hps2.out, lastO_snoc], by rw [hps2.out, outO_snoc]; exact hoO9, by rw [hck2.out]; exact hb9, hg9⟩); (case measure => simp [intOf]; omega))
        · have hm2 : m = row.length := by omega
          subst hm2
          rw [List.take_length] at hoO hb0 ⊢
          rw [← hps.out] at hoO ⊢
          go_wp2_with fail
          (go_roundw; (case rel => exact ⟨k + 1, by omega, by go_num, rfl, hoO, hg⟩); (case measure => simp [intOf]; omega))
    · have hke : k = plan.length := by omega
      subst hke
      go_wp2_with fail
      refine bodyPost_ret (v := .tuple #[.slice (some ⟨gs, 0, none⟩) j.length j.length, .int .i64 (lastO (pairsK p j plan ch plan.length))]) (by simp [results, Tryz.results80, go_sem]) rfl ⟨gs, rfl, hoO, hg⟩

end Go.Proofs.YtejmbaiioblfeaaGreatDoor

namespace Go.Proofs.YtejmbaiioblfeaaGreatDoor
open Go Go.RowKit Go.Bl

def endsL (p : List Prn) (j : List Jb) (plan : List (List Int)) (ch : Int) : List Int := if plannedF p j plan ch = 0 then endsF p j plan ch else []

def endsN (p : List Prn) (j : List Jb) (plan : List (List Int)) (ch : Int) : Int := if plannedF p j plan ch = 0 then endF p j plan ch else 0

theorem endsF_len (p : List Prn) (j : List Jb) (plan : List (List Int)) (ch : Int) : (endsF p j plan ch).length = j.length := outO_len _ _

set_option maxHeartbeats 1000000 in
theorem endsTop_any (A : Option Addr) (c : Nat) (p : List Prn) (B : Option Addr) (d : Nat) (j : List Jb) (C : Option Addr) (e0 : Nat) (plan : List (List Int)) (ch : Int) (w : World) (hp : Sl w 0 A p) (hj : Sl w 0 B j) (hpl : Sl w 0 C plan) :
    Calls Tryz.prog 45 #[.slice A p.length c, .slice B j.length d, .slice C plan.length e0, .int .i64 ch] w fun e w' => ∃ A' c', e = .returned (.tuple #[.slice A' (endsL p j plan ch).length c', .int .i64 (endsN p j plan ch), .int .i64 (plannedF p j plan ch)]) ∧ Sl w' 0 A' (endsL p j plan ch) ∧ w.grownBy w' none := by
  have hPl := planned_any A c p B d j C e0 plan ch w hp hj hpl
  by_cases h0 : plannedF p j plan ch = 0
  · have hE : endsL p j plan ch = endsF p j plan ch := if_pos h0
    have hN : endsN p j plan ch = endF p j plan ch := if_pos h0
    rw [hE, hN]
    have hok := pok_of h0
    rw [h0] at hPl ⊢
    clear h0 hE hN
    have hel := endsF_len p j plan ch
    rw [hel]
    replace hel := hide hel
    replace hok := hide hok
    go_enter Tryz.func45, Tryz.ntmps45
    go_wp2_with fail
    refine hPl.mono ?_
    rintro e w1 ⟨rfl, hg1⟩
    go_wp2_with fail
    refine (endsJ_any _ _ _ _ _ _ _ _ _ _ _ (hp.pure hg1) (hj.pure hg1) (hpl.pure hg1) hok.out).mono ?_
    rintro e w2 ⟨g, rfl, ho, hg2⟩
    go_wp2_with fail
    exact bodyPost_ret (v := .tuple #[.slice (some ⟨g, 0, none⟩) j.length j.length, .int .i64 (endF p j plan ch), .int .i64 0]) (by simp [results, Tryz.results45, go_sem]) rfl ⟨_, _, rfl, ho.sl.mono (Nat.zero_le _), gr_trans hg1 hg2⟩
  · have hE : endsL p j plan ch = [] := if_neg h0
    have hN : endsN p j plan ch = 0 := if_neg h0
    rw [hE, hN]
    clear hE hN
    generalize plannedF p j plan ch = F at *
    have hb : (F != 0) = true := by simp [h0]
    clear h0
    go_enter Tryz.func45, Tryz.ntmps45
    go_wp2_with fail
    refine hPl.mono ?_
    rintro e w1 ⟨rfl, hg1⟩
    go_wp2_with fail
    exact bodyPost_ret (v := .tuple #[.slice none 0 0, .int .i64 0, .int .i64 F]) (by simp [results, Tryz.results45, go_sem]) rfl ⟨_, _, rfl, Sl.nil, hg1⟩

def endV (j : List Jb) (ch : Int) (m : ByteArray) (row : List Int) : List Int := (rowC j ch (0, m) row).map (·.2)

end Go.Proofs.YtejmbaiioblfeaaGreatDoor
