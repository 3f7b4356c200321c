/- Contracts of functions that this seat's laws reach, each: what one call returns and what it leaves in memory; no condition beyond each theorem's own hypotheses. -/
import Derived.Test.YtanioobepfllgaaDoorZqStream
import Derived.Test.YtanioobepfllgaaDoorZqPathA
import Derived.Test.YtanioobepfllgaaDoorZqNest2
import Derived.Test.YtanioobepfllgaaDoorZqFarmData
import Derived.Test.YtanioobepfllgaaDoorShelf
import Derived.Shelf.Strings.SlTrimAscii
import Derived.Test.YtanioobepfllgaaDoorZqGrS
import Derived.Test.YtanioobepfllgaaDoorZqNestCat
import Derived.Test.YtanioobepfllgaaDoorZqFlowB
import Derived.Test.YtanioobepfllgaaDoorZqPlanData
set_option linter.unusedVariables false
set_option linter.unusedSimpArgs false
namespace Go.Proofs.YtanioobepfllgaaDoor
open Go.RowKit Go.Bl

theorem trimKey_any (s : ByteArray) (w : World) (hs : s.size ≤ 9223372036854775807) :
    Calls Tryd.prog 65 #[.string s, .string ⟨#[97, 98, 99, 100, 101, 102, 103, 104, 105, 106, 107, 108, 109, 110, 111, 112, 113, 114, 115, 116, 117, 118, 119, 120, 121, 122, 48, 49, 50, 51, 52, 53, 54, 55, 56, 57, 45, 95]⟩] w fun e w' => e = .returned (.string ⟨(Lib.trimS s.data.toList keyL).toArray⟩) ∧ w.grownBy w' none := by
  refine (Any.strings_Trim_laid Tryd.lays160 (by kernel_rfl) s _ w hs (by decide) (ascii_of_all (by decide))).mono ?_
  rintro e w' ⟨rfl, hb⟩
  exact ⟨rfl, gr_below hb⟩

theorem size_of (s : ByteArray) : s.size = s.data.toList.length := by
  rw [Array.length_toList]; rfl

theorem head_of {s : ByteArray} (h : 0 < s.size) : ∃ c t, s.data.toList = c :: t ∧ s[0] = c := by
  have hz := size_of s
  cases hd : s.data.toList with
  | nil => rw [hd] at hz; simp only [List.length_nil] at hz; omega
  | cons c t =>
    refine ⟨c, t, rfl, ?_⟩
    have : s.data.toList[0]? = some c := by rw [hd]; rfl
    have h2 : s[0] = s.data[0] := rfl
    rw [h2]
    have h3 : s.data[0]? = some c := by simpa using this
    exact Array.getElem_eq_iff.2 h3

theorem empty_of {s : ByteArray} : s.toList.isEmpty = decide (s.size = 0) := by
  have hz := size_of s
  rw [Lib.toList_data, hz]
  cases s.data.toList <;> simp

set_option maxHeartbeats 800000 in
theorem isKey_any (s : ByteArray) (w : World) :
    Calls Tryd.prog 66 #[.string s] w fun e w' => e = .returned (.bool (keyB s)) ∧ w.grownBy w' none := by
  have hemp := @empty_of s
  by_cases h0 : s.size = 0
  · have hk : keyB s = false := by simp [keyB, h0]
    rw [hk]
    simp only [h0, decide_true] at hemp
    go_enter Tryd.func66, Tryd.ntmps66
    go_wp2_with fail
    all_goals (go_ret; exact ⟨rfl, World.grownBy.refl _ _⟩)
  · have hp : 0 < s.size := by omega
    simp only [h0, decide_false] at hemp
    by_cases h1 : s.size ≤ 40
    · have hl : decide ((s.size : Int) ≤ 40) = true := by simp; omega
      obtain ⟨c, t, hd, hc⟩ := head_of hp
      have hix : (s[0].toNat : Int).toNat.toUInt8 = c := by rw [hc]; simp
      have hk : keyB s = (decide (0 ≤ Lib.indexByte smallB c) && (Lib.trimS s.data.toList keyL).isEmpty) := by simp [keyB, hp, h1, hd]
      rw [hk]
      replace hd := hide hd; replace hc := hide hc; replace hk := hide hk; replace hix := hide hix
      go_enter Tryd.func66, Tryd.ntmps66
      go_wp2_with fail
      refine (Tryd.strings_IndexByte _ _ _).mono ?_
      rintro e w' ⟨rfl, rfl⟩
      have hix2 : Lib.indexByte (⟨#[97, 98, 99, 100, 101, 102, 103, 104, 105, 106, 107, 108, 109, 110, 111, 112, 113, 114, 115, 116, 117, 118, 119, 120, 121, 122]⟩ : ByteArray).data.toList (s[0].toNat : Int).toNat.toUInt8 = Lib.indexByte smallB c := by rw [hix.out]; rfl
      rw [hix2]
      clear hix2
      obtain ⟨n, hnn⟩ : ∃ n, Lib.indexByte smallB c = n := ⟨_, rfl⟩
      rw [hnn]
      replace hnn := hide hnn
      by_cases hn : 0 ≤ n
      · have hn' : decide (n ≥ 0) = true := by simpa using hn
        go_wp2_with fail
        refine (trimKey_any _ _ (by omega)).mono ?_
        rintro e w' ⟨rfl, hg⟩
        obtain ⟨q, hqq⟩ : ∃ q, Lib.trimS s.data.toList keyL = q := ⟨_, rfl⟩
        rw [hqq]
        replace hqq := hide hqq
        go_wp2_with fail
        go_ret
        exact ⟨ret_bool (by rw [hnn.out, hqq.out]; simp [hn, empty_of, size_of]), hg⟩
      · have hn' : decide (n ≥ 0) = false := by simpa using hn
        go_wp2_with fail
        go_ret
        exact ⟨ret_bool (by rw [hnn.out]; simp; intro h; omega), World.grownBy.refl _ _⟩
    · have hl : decide ((s.size : Int) ≤ 40) = false := by simp; omega
      have hk : keyB s = false := by simp [keyB, h1]
      rw [hk]
      go_enter Tryd.func66, Tryd.ntmps66
      go_wp2_with fail
      all_goals (go_ret; exact ⟨rfl, World.grownBy.refl _ _⟩)

set_option maxHeartbeats 800000 in
theorem key_any (s : ByteArray) (w : World) :
    Calls Tryd.prog 51 #[.string s] w fun e w' => e = .returned (.bool (keyB s)) ∧ w.grownBy w' none := by
  have hin : inB (s.size : Int) 1 40 = (decide (0 < s.size) && decide (s.size ≤ 40)) := by
    unfold inB; by_cases h1 : 0 < s.size <;> by_cases h2 : s.size ≤ 40 <;> simp [h1, h2] <;> omega
  by_cases h0 : 0 < s.size ∧ s.size ≤ 40
  · obtain ⟨hp, h1⟩ := h0
    simp only [hp, h1, decide_true, Bool.and_true] at hin
    obtain ⟨c, t, hd, hc⟩ := head_of hp
    have hk : keyB s = (decide (0 ≤ Lib.indexByte smallB c) && (Lib.trimS s.data.toList keyL).isEmpty) := by simp [keyB, hp, h1, hd]
    rw [hk]
    replace hd := hide hd; replace hc := hide hc; replace hk := hide hk; replace hin := hide hin
    go_enter Tryd.func51, Tryd.ntmps51
    go_wp2_with (go_at_call 52; refine (in_any _ _ _ _).mono ?_; rintro _ _ ⟨rfl, rfl⟩; rw [hin.out])
    have hex : s.extract 0 1 = ⟨#[c]⟩ := by
      apply ByteArray.ext
      apply Array.toList_inj.1
      simp [hd.out]
    rw [hex]
    refine (Tryd.strings_Contains_one _ _ _).mono ?_
    rintro e w' ⟨rfl, rfl⟩
    have hix2 : Lib.indexByte (⟨#[97, 98, 99, 100, 101, 102, 103, 104, 105, 106, 107, 108, 109, 110, 111, 112, 113, 114, 115, 116, 117, 118, 119, 120, 121, 122]⟩ : ByteArray).data.toList c = Lib.indexByte smallB c := rfl
    rw [hix2]
    clear hix2
    obtain ⟨n, hnn⟩ : ∃ n, Lib.indexByte smallB c = n := ⟨_, rfl⟩
    rw [hnn]
    replace hnn := hide hnn
    by_cases hn : 0 ≤ n
    · have hn' : decide (0 ≤ n) = true := by simpa using hn
      go_wp2_with fail
      refine (trimKey_any _ _ (by omega)).mono ?_
      rintro e w' ⟨rfl, hg⟩
      obtain ⟨q, hqq⟩ : ∃ q, Lib.trimS s.data.toList keyL = q := ⟨_, rfl⟩
      rw [hqq]
      replace hqq := hide hqq
      go_wp2_with fail
      go_ret
      exact ⟨ret_bool (by rw [hnn.out, hqq.out]; simp [hn, empty_of, size_of]), hg⟩
    · have hn' : decide (0 ≤ n) = false := by simpa using hn
      go_wp2_with fail
      go_ret
      exact ⟨ret_bool (by rw [hnn.out]; simp; intro h; omega), World.grownBy.refl _ _⟩
  · have hk : keyB s = false := by simp [keyB]; intro a b; omega
    have hin2 : inB (s.size : Int) 1 40 = false := by rw [hin]; simp; omega
    clear hin
    rw [hk]
    go_enter Tryd.func51, Tryd.ntmps51
    go_wp2_with (go_at_call 52; refine (in_any _ _ _ _).mono ?_; rintro _ _ ⟨rfl, rfl⟩; rw [hin2])
    all_goals (go_ret; exact ⟨rfl, World.grownBy.refl _ _⟩)

end Go.Proofs.YtanioobepfllgaaDoor

namespace Go.Proofs.YtanioobepfllgaaDoor
open Go.RowKit Go.Bl

theorem info_prn : (Tryd.prog.info? 47).map (fun i => (i.zero, i.size, i.bytes)) = some (some (.agg #[.string ByteArray.empty, .string ByteArray.empty]), 2, 32) := by kernel_rfl

theorem info_jb : (Tryd.prog.info? 58).map (fun i => (i.zero, i.size, i.bytes)) = some (some (.agg #[.string ByteArray.empty, .string ByteArray.empty, .int .i64 0, .int .i64 0]), 4, 48) := by kernel_rfl

set_option maxHeartbeats 2000000 in
theorem checkPrinters_any (A : Option Addr) (c : Nat) (l : List Prn) (w : World) (hl : Sl w 0 A l) :
    Calls Tryd.prog 53 #[.slice A l.length c] w fun e w' => e = .returned (.int .i64 (prnsF l)) ∧ w.grownBy w' none := by
  have hm := hl.1
  unfold maxLen at hm
  by_cases hz : l.length = 0
  · have HE : Hid (prnsF l = 8) := by simp [Hid, prnsF, hz]
    have hzb : ((l.length : Int) == 0) = true := by simp [hz]
    go_enter Tryd.func53, Tryd.ntmps53
    go_wp2_with fail
    go_ret
    exact ⟨ret_int HE.out.symm, (by repeat (first | exact World.grownBy.refl _ _ | assumption | refine gr_alloc ?_ _ | (apply gr_tail; assumption) | refine gr_drewN ?_ _ | refine gr_drew ?_))⟩
  · by_cases h50 : 50 < l.length
    · have HE : Hid (prnsF l = 2) := by simp [Hid, prnsF, hz, h50]
      have hd : decide ((l.length : Int) > 50) = true := by simp; omega
      go_enter Tryd.func53, Tryd.ntmps53
      go_wp2_with fail
      go_ret
      exact ⟨ret_int HE.out.symm, (by repeat (first | exact World.grownBy.refl _ _ | assumption | refine gr_alloc ?_ _ | (apply gr_tail; assumption) | refine gr_drewN ?_ _ | refine gr_drew ?_))⟩
    · have HE : Hid (prnsF l = scanN (prnF l) l.length) := by simp [Hid, prnsF, hz, h50]
      have hzb : ((l.length : Int) == 0) = false := by rw [beq_eq_false_iff_ne]; omega
      have hd : decide ((l.length : Int) > 50) = false := by simp; omega
      go_enter Tryd.func53, Tryd.ntmps53
      go_wp2_with fail
      go_loopw [13] (fun i wr => ∃ k : Nat, k ≤ l.length ∧ i = .int .i64 k ∧ w.grownBy wr none ∧ Hid (scanN (prnF l) k = 0)) (fun i _ => l.length - (intOf i).toNat)
      case atStart => exact ⟨0, Nat.zero_le _, rfl, World.grownBy.refl _ _, rfl⟩
      case round =>
        obtain ⟨k, hk, rfl, hg, hall⟩ := hrel
        by_cases hlt : k < l.length
        · have hls := hl.gr hg (by simp)
          obtain ⟨g, o, cx, rfl, hb0, hb1, rfl, hc⟩ := hls.at_ (by decide) hlt
          have c0 : wr.cell? ⟨g, o + k * 2, none⟩ = some (.string l[k].key) := hc 0 _ rfl
          have c1 : wr.cell? ⟨g, o + k * 2 + 1, none⟩ = some (.string l[k].mat) := hc 1 _ rfl
          clear hc
          replace hd := hide hd
          go_wp2_with fail
          obtain ⟨w1, hw1⟩ : ∃ x, x = (wr).alloc (.cells [.string l[k].key, .string l[k].mat].toArray 47) := ⟨_, rfl⟩
          have hg1 : (wr).grownBy w1 none := by rw [hw1]; exact gr_alloc (World.grownBy.refl _ _) _
          have hb1 : Box w1 (wr).heap.size 47 [.string l[k].key, .string l[k].mat] := by rw [hw1]; exact Box.new _ _ _
          have hxs1 := hb1.lt
          rw [← hw1]
          clear hw1
          obtain ⟨x1, hx1⟩ : ∃ x, x = (wr).heap.size := ⟨_, rfl⟩
          rw [← hx1] at hb1 hxs1 ⊢
          have hxl1 : (wr).heap.size ≤ x1 := by omega
          clear hx1
          have HF : Hid (prnF l k ≠ 0 → prnsF l = prnF l k) := fun h => HE.out.trans (scanN_at hall.out h hlt)
          have HO : Hid (prnF l k = 0 → scanN (prnF l) (k + 1) = 0) := fun h => scanN_ok hall.out h
          have HV : Hid (prnF l k = if keyB l[k].key && keyB l[k].mat then (if decide (0 < k) && leS l[k].key (l.getD (k - 1) default).key then 7 else 0) else 5) := by
            simp only [Hid, prnF, List.getD_eq_getElem?_getD, List.getElem?_eq_getElem hlt, Option.getD_some]
          clear c0 c1
          refine (isKey_any _ _).mono ?_
          rintro e w2 ⟨rfl, hg2⟩
          have b0 := ((hb1.pure hg2).c 0 rfl).1
          have b1 := ((hb1.pure hg2).c 1 rfl).1
          rcases h1 : keyB l[k].key with _ | _
          · go_wp2_with fail
            go_ret
            exact ⟨ret_int (by have e := HV.out; rw [h1] at e; simp only [Bool.false_and, Bool.false_eq_true, if_false] at e; rw [HF.out (by rw [e]; decide), e]), (by repeat (first | exact World.grownBy.refl _ _ | assumption | refine gr_alloc ?_ _ | (apply gr_tail; assumption) | refine gr_drewN ?_ _ | refine gr_drew ?_))⟩
          · go_wp2_with fail
            refine (isKey_any _ _).mono ?_
            rintro e w3 ⟨rfl, hg3⟩
            rcases h2 : keyB l[k].mat with _ | _
            · go_wp2_with fail
              go_ret
              exact ⟨ret_int (by have e := HV.out; rw [h1, h2] at e; simp only [Bool.and_false, Bool.false_eq_true, if_false] at e; rw [HF.out (by rw [e]; decide), e]), (by repeat (first | exact World.grownBy.refl _ _ | assumption | refine gr_alloc ?_ _ | (apply gr_tail; assumption) | refine gr_drewN ?_ _ | refine gr_drew ?_))⟩
            · clear b0 b1
              have b0 := ((hb1.pure (hg2.t hg3)).c 0 rfl).1
              go_wp2_with fail
              rcases k with _ | m
              · go_quiet (fail)
                go_wp2
                have e := HV.out
                simp only [h1, h2, Bool.and_self, if_true, Nat.lt_irrefl, decide_false, Bool.false_and, Bool.false_eq_true, if_false] at e
                (go_roundw; (case rel => exact ⟨1, by omega, by go_num, gr_drewN (hg.t (hg1.t (hg2.t hg3))) _, HO.out e⟩); (case measure => simp [intOf]; omega))
              · have hp : 0 < m + 1 := by omega
                have hgw : w.grownBy w3 none := hg.t (hg1.t (hg2.t hg3))
                obtain ⟨g', o', cx, e, _, _, rfl, hc⟩ := (hl.gr hgw (by simp)).at_ (by decide) (show m < l.length by omega)
                cases e
                have c0 : w3.cell? ⟨g, o + m * 2, none⟩ = some (.string l[m].key) := hc 0 _ rfl
                clear hc
                have e := HV.out
                simp only [h1, h2, Bool.and_self, if_true, hp, decide_true, Bool.true_and, Nat.add_sub_cancel, List.getD_eq_getElem?_getD, List.getElem?_eq_getElem (show m < l.length by omega), Option.getD_some] at e
                replace e := hide e
                replace HV := HV.out
                clear HV
                rcases hq : leS l[m + 1].key l[m].key with _ | _
                · have hq2 : (Op.bytesLess l[m + 1].key.toList l[m].key.toList || (l[m + 1].key.toList == l[m].key.toList)) = false := hq
                  replace hq := hide hq
                  go_quiet (fail)
                  go_wp2
                  (go_roundw; (case rel => exact ⟨m + 2, by omega, by go_num, gr_drewN (hg.t (hg1.t (hg2.t hg3))) _, HO.out (e.out.trans (by rw [hq.out]; rfl))⟩); (case measure => simp [intOf]; omega))
                · have hq2 : (Op.bytesLess l[m + 1].key.toList l[m].key.toList || (l[m + 1].key.toList == l[m].key.toList)) = true := hq
                  replace hq := hide hq
                  go_quiet (fail)
                  go_wp2_with fail
                  go_ret
                  exact ⟨ret_int (by have e2 := e.out; rw [hq.out, if_pos rfl] at e2; rw [HF.out (by rw [e2]; decide), e2]), gr_drewN (hg.t (hg1.t (hg2.t hg3))) _⟩
        · have HB : Hid (prnsF l = 0) := by
            have : k = l.length := by omega
            subst this
            exact HE.out.trans hall.out
          replace hd := hide hd
          go_wp2_with fail
          go_ret
          exact ⟨ret_int HB.out.symm, hg⟩

set_option maxHeartbeats 2000000 in
theorem printersFault_any (A : Option Addr) (c : Nat) (l : List Prn) (w : World) (hl : Sl w 0 A l) :
    Calls Tryd.prog 25 #[.slice A l.length c] w fun e w' => e = .returned (.int .i64 (prnsF l)) ∧ w.grownBy w' none := by
  have hm := hl.1
  unfold maxLen at hm
  by_cases hz : l.length = 0
  · have HE : Hid (prnsF l = 8) := by simp [Hid, prnsF, hz]
    have hzb : ((l.length : Int) == 0) = true := by simp [hz]
    go_enter Tryd.func25, Tryd.ntmps25
    go_wp2_with fail
    go_ret
    exact ⟨ret_int HE.out.symm, (by repeat (first | exact World.grownBy.refl _ _ | assumption | refine gr_alloc ?_ _ | (apply gr_tail; assumption) | refine gr_drewN ?_ _ | refine gr_drew ?_))⟩
  · by_cases h50 : 50 < l.length
    · have HE : Hid (prnsF l = 2) := by simp [Hid, prnsF, hz, h50]
      have hd : decide ((l.length : Int) > 50) = true := by simp; omega
      go_enter Tryd.func25, Tryd.ntmps25
      go_wp2_with fail
      go_ret
      exact ⟨ret_int HE.out.symm, (by repeat (first | exact World.grownBy.refl _ _ | assumption | refine gr_alloc ?_ _ | (apply gr_tail; assumption) | refine gr_drewN ?_ _ | refine gr_drew ?_))⟩
    · have HE : Hid (prnsF l = scanN (prnF l) l.length) := by simp [Hid, prnsF, hz, h50]
      have hzb : ((l.length : Int) == 0) = false := by rw [beq_eq_false_iff_ne]; omega
      have hd : decide ((l.length : Int) > 50) = false := by simp; omega
      go_enter Tryd.func25, Tryd.ntmps25
      go_wp2_with fail
      go_loopw [15] (fun i wr => ∃ k : Nat, k ≤ l.length ∧ i = .int .i64 k ∧ w.grownBy wr none ∧ Hid (scanN (prnF l) k = 0)) (fun i _ => l.length - (intOf i).toNat)
      case atStart => exact ⟨0, Nat.zero_le _, rfl, World.grownBy.refl _ _, rfl⟩
      case round =>
        obtain ⟨k, hk, rfl, hg, hall⟩ := hrel
        by_cases hlt : k < l.length
        · have hls := hl.gr hg (by simp)
          obtain ⟨g, o, cx, rfl, hb0, hb1, rfl, hc⟩ := hls.at_ (by decide) hlt
          have c0 : wr.cell? ⟨g, o + k * 2, none⟩ = some (.string l[k].key) := hc 0 _ rfl
          have c1 : wr.cell? ⟨g, o + k * 2 + 1, none⟩ = some (.string l[k].mat) := hc 1 _ rfl
          clear hc
          replace hd := hide hd
          go_wp2_with fail
          obtain ⟨w1, hw1⟩ : ∃ x, x = (wr).alloc (.cells [.string l[k].key, .string l[k].mat].toArray 47) := ⟨_, rfl⟩
          have hg1 : (wr).grownBy w1 none := by rw [hw1]; exact gr_alloc (World.grownBy.refl _ _) _
          have hb1 : Box w1 (wr).heap.size 47 [.string l[k].key, .string l[k].mat] := by rw [hw1]; exact Box.new _ _ _
          have hxs1 := hb1.lt
          rw [← hw1]
          clear hw1
          obtain ⟨x1, hx1⟩ : ∃ x, x = (wr).heap.size := ⟨_, rfl⟩
          rw [← hx1] at hb1 hxs1 ⊢
          have hxl1 : (wr).heap.size ≤ x1 := by omega
          clear hx1
          have HF : Hid (prnF l k ≠ 0 → prnsF l = prnF l k) := fun h => HE.out.trans (scanN_at hall.out h hlt)
          have HO : Hid (prnF l k = 0 → scanN (prnF l) (k + 1) = 0) := fun h => scanN_ok hall.out h
          have HV : Hid (prnF l k = if keyB l[k].key && keyB l[k].mat then (if decide (0 < k) && leS l[k].key (l.getD (k - 1) default).key then 7 else 0) else 5) := by
            simp only [Hid, prnF, List.getD_eq_getElem?_getD, List.getElem?_eq_getElem hlt, Option.getD_some]
          clear c0 c1
          refine (key_any _ _).mono ?_
          rintro e w2 ⟨rfl, hg2⟩
          have b0 := ((hb1.pure hg2).c 0 rfl).1
          have b1 := ((hb1.pure hg2).c 1 rfl).1
          rcases h1 : keyB l[k].key with _ | _
          · go_wp2_with fail
            go_ret
            exact ⟨ret_int (by have e := HV.out; rw [h1] at e; simp only [Bool.false_and, Bool.false_eq_true, if_false] at e; rw [HF.out (by rw [e]; decide), e]), (by repeat (first | exact World.grownBy.refl _ _ | assumption | refine gr_alloc ?_ _ | (apply gr_tail; assumption) | refine gr_drewN ?_ _ | refine gr_drew ?_))⟩
          · go_wp2_with fail
            refine (key_any _ _).mono ?_
            rintro e w3 ⟨rfl, hg3⟩
            rcases h2 : keyB l[k].mat with _ | _
            · go_wp2_with fail
              go_ret
              exact ⟨ret_int (by have e := HV.out; rw [h1, h2] at e; simp only [Bool.and_false, Bool.false_eq_true, if_false] at e; rw [HF.out (by rw [e]; decide), e]), (by repeat (first | exact World.grownBy.refl _ _ | assumption | refine gr_alloc ?_ _ | (apply gr_tail; assumption) | refine gr_drewN ?_ _ | refine gr_drew ?_))⟩
            · clear b0 b1
              have b0 := ((hb1.pure (hg2.t hg3)).c 0 rfl).1
              go_wp2_with fail
              rcases k with _ | m
              · go_quiet (fail)
                go_wp2
                have e := HV.out
                simp only [h1, h2, Bool.and_self, if_true, Nat.lt_irrefl, decide_false, Bool.false_and, Bool.false_eq_true, if_false] at e
                (go_roundw; (case rel => exact ⟨1, by omega, by go_num, gr_drewN (hg.t (hg1.t (hg2.t hg3))) _, HO.out e⟩); (case measure => simp [intOf]; omega))
              · have hp : 0 < m + 1 := by omega
                have hgw : w.grownBy w3 none := hg.t (hg1.t (hg2.t hg3))
                obtain ⟨g', o', cx, e, _, _, rfl, hc⟩ := (hl.gr hgw (by simp)).at_ (by decide) (show m < l.length by omega)
                cases e
                have c0 : w3.cell? ⟨g, o + m * 2, none⟩ = some (.string l[m].key) := hc 0 _ rfl
                clear hc
                have e := HV.out
                simp only [h1, h2, Bool.and_self, if_true, hp, decide_true, Bool.true_and, Nat.add_sub_cancel, List.getD_eq_getElem?_getD, List.getElem?_eq_getElem (show m < l.length by omega), Option.getD_some] at e
                replace e := hide e
                replace HV := HV.out
                clear HV
                rcases hq : leS l[m + 1].key l[m].key with _ | _
                · have hq2 : (Op.bytesLess l[m + 1].key.toList l[m].key.toList || (l[m + 1].key.toList == l[m].key.toList)) = false := hq
                  replace hq := hide hq
                  go_quiet (fail)
                  go_wp2
                  (go_roundw; (case rel => exact ⟨m + 2, by omega, by go_num, gr_drewN (hg.t (hg1.t (hg2.t hg3))) _, HO.out (e.out.trans (by rw [hq.out]; rfl))⟩); (case measure => simp [intOf]; omega))
                · have hq2 : (Op.bytesLess l[m + 1].key.toList l[m].key.toList || (l[m + 1].key.toList == l[m].key.toList)) = true := hq
                  replace hq := hide hq
                  go_quiet (fail)
                  go_wp2_with fail
                  go_ret
                  exact ⟨ret_int (by have e2 := e.out; rw [hq.out, if_pos rfl] at e2; rw [HF.out (by rw [e2]; decide), e2]), gr_drewN (hg.t (hg1.t (hg2.t hg3))) _⟩
        · have HB : Hid (prnsF l = 0) := by
            have : k = l.length := by omega
            subst this
            exact HE.out.trans hall.out
          replace hd := hide hd
          go_wp2_with fail
          go_ret
          exact ⟨ret_int HB.out.symm, hg⟩

end Go.Proofs.YtanioobepfllgaaDoor

namespace Go.Proofs.YtanioobepfllgaaDoor
open Go.RowKit Go.Bl

theorem in_out (n a b : Int) : inB n a b = !outB n a b := by
  unfold inB outB; by_cases h1 : a ≤ n <;> by_cases h2 : n ≤ b <;> simp [h1, h2] <;> omega

set_option maxHeartbeats 4000000 in
theorem checkJobs_any (A : Option Addr) (c : Nat) (l : List Jb) (w : World) (hl : Sl w 0 A l) :
    Calls Tryd.prog 54 #[.slice A l.length c] w fun e w' => e = .returned (.int .i64 (jbsF l)) ∧ w.grownBy w' none := by
  have hm := hl.1
  unfold maxLen at hm
  by_cases h50 : 500 < l.length
  · have HE : Hid (jbsF l = 2) := by simp [Hid, jbsF, h50]
    have hd : decide ((l.length : Int) > 500) = true := by simp; omega
    go_enter Tryd.func54, Tryd.ntmps54
    go_wp2_with fail
    go_ret
    exact ⟨ret_int HE.out.symm, (by repeat (first | exact World.grownBy.refl _ _ | assumption | refine gr_alloc ?_ _ | (apply gr_tail; assumption) | refine gr_drewN ?_ _ | refine gr_drew ?_))⟩
  · have HE : Hid (jbsF l = scanN (jbF l) l.length) := by simp [Hid, jbsF, h50]
    have hd : decide ((l.length : Int) > 500) = false := by simp; omega
    go_enter Tryd.func54, Tryd.ntmps54
    go_wp2_with fail
    go_loopw [10] (fun i wr => ∃ k : Nat, k ≤ l.length ∧ i = .int .i64 k ∧ w.grownBy wr none ∧ Hid (scanN (jbF l) k = 0)) (fun i _ => l.length - (intOf i).toNat)
    case atStart => exact ⟨0, Nat.zero_le _, rfl, World.grownBy.refl _ _, rfl⟩
    case round =>
      obtain ⟨k, hk, rfl, hg, hall⟩ := hrel
      by_cases hlt : k < l.length
      · have hls := hl.gr hg (by simp)
        obtain ⟨g, o, cx, rfl, hb0, hb1, rfl, hc⟩ := hls.at_ (by decide) hlt
        have c0 : wr.cell? ⟨g, o + k * 4, none⟩ = some (.string l[k].key) := hc 0 _ rfl
        have c1 : wr.cell? ⟨g, o + k * 4 + 1, none⟩ = some (.string l[k].mat) := hc 1 _ rfl
        have c2 : wr.cell? ⟨g, o + k * 4 + 2, none⟩ = some (.int .i64 l[k].min) := hc 2 _ rfl
        have c3 : wr.cell? ⟨g, o + k * 4 + 3, none⟩ = some (.int .i64 l[k].due) := hc 3 _ rfl
        clear hc
        replace hd := hide hd
        go_wp2_with fail
        obtain ⟨w1, hw1⟩ : ∃ x, x = (wr).alloc (.cells [.string l[k].key, .string l[k].mat, .int .i64 l[k].min, .int .i64 l[k].due].toArray 58) := ⟨_, rfl⟩
        have hg1 : (wr).grownBy w1 none := by rw [hw1]; exact gr_alloc (World.grownBy.refl _ _) _
        have hb1 : Box w1 (wr).heap.size 58 [.string l[k].key, .string l[k].mat, .int .i64 l[k].min, .int .i64 l[k].due] := by rw [hw1]; exact Box.new _ _ _
        have hxs1 := hb1.lt
        rw [← hw1]
        clear hw1
        obtain ⟨x1, hx1⟩ : ∃ x, x = (wr).heap.size := ⟨_, rfl⟩
        rw [← hx1] at hb1 hxs1 ⊢
        have hxl1 : (wr).heap.size ≤ x1 := by omega
        clear hx1
        have HF : Hid (jbF l k ≠ 0 → jbsF l = jbF l k) := fun h => HE.out.trans (scanN_at hall.out h hlt)
        have HO : Hid (jbF l k = 0 → scanN (jbF l) (k + 1) = 0) := fun h => scanN_ok hall.out h
        have HV : Hid (jbF l k = if keyB l[k].key && keyB l[k].mat then (if outB l[k].min 1 100000 || outB l[k].due 0 1000000000 then 1 else if decide (0 < k) && leS l[k].key (l.getD (k - 1) default).key then 7 else 0) else 5) := by
          simp only [Hid, jbF, List.getD_eq_getElem?_getD, List.getElem?_eq_getElem hlt, Option.getD_some]
        clear c0 c1 c2 c3
        refine (isKey_any _ _).mono ?_
        rintro e w2 ⟨rfl, hg2⟩
        have b1 := ((hb1.pure hg2).c 1 rfl).1
        rcases h1 : keyB l[k].key with _ | _
        · go_wp2_with fail
          go_ret
          exact ⟨ret_int (by have e := HV.out; rw [h1] at e; simp only [Bool.false_and, Bool.false_eq_true, if_false] at e; rw [HF.out (by rw [e]; decide), e]), (by repeat (first | exact World.grownBy.refl _ _ | assumption | refine gr_alloc ?_ _ | (apply gr_tail; assumption) | refine gr_drewN ?_ _ | refine gr_drew ?_))⟩
        · go_wp2_with fail
          refine (isKey_any _ _).mono ?_
          rintro e w3 ⟨rfl, hg3⟩
          rcases h2 : keyB l[k].mat with _ | _
          · go_wp2_with fail
            go_ret
            exact ⟨ret_int (by have e := HV.out; rw [h1, h2] at e; simp only [Bool.and_false, Bool.false_eq_true, if_false] at e; rw [HF.out (by rw [e]; decide), e]), (by repeat (first | exact World.grownBy.refl _ _ | assumption | refine gr_alloc ?_ _ | (apply gr_tail; assumption) | refine gr_drewN ?_ _ | refine gr_drew ?_))⟩
          · clear b1
            have hb3 := hb1.pure (hg2.t hg3)
            have b0 := (hb3.c 0 rfl).1
            have b2 := (hb3.c 2 rfl).1
            have b3 := (hb3.c 3 rfl).1
            have HV2 : Hid (jbF l k = (if outB l[k].min 1 100000 || outB l[k].due 0 1000000000 then 1 else if decide (0 < k) && leS l[k].key (l.getD (k - 1) default).key then 7 else 0)) := by
              have e := HV.out; rw [h1, h2] at e; exact e
            replace h1 := hide h1
            replace h2 := hide h2
            clear HV
            rcases h3 : outB l[k].min 1 100000 with _ | _
            · rcases h4 : outB l[k].due 0 1000000000 with _ | _
              · have HV3 : Hid (jbF l k = (if decide (0 < k) && leS l[k].key (l.getD (k - 1) default).key then 7 else 0)) := by
                  have e := HV2.out; rw [h3, h4] at e; exact e
                clear HV2
                go_wp2_with (go_at_call 55; refine (outside_any _ _ _ _).mono ?_; rintro _ _ ⟨rfl, rfl⟩)
                rcases k with _ | m
                · go_quiet (fail)
                  go_wp2
                  have e := HV3.out
                  simp only [Nat.lt_irrefl, decide_false, Bool.false_and, Bool.false_eq_true, if_false] at e
                  (go_roundw; (case rel => exact ⟨1, by omega, by go_num, gr_drewN (hg.t (hg1.t (hg2.t hg3))) _, HO.out e⟩); (case measure => simp [intOf]; omega))
                · have hp : 0 < m + 1 := by omega
                  have hgw : w.grownBy w3 none := hg.t (hg1.t (hg2.t hg3))
                  obtain ⟨g', o', cx, e, _, _, rfl, hc⟩ := (hl.gr hgw (by simp)).at_ (by decide) (show m < l.length by omega)
                  cases e
                  have c0 : w3.cell? ⟨g, o + m * 4, none⟩ = some (.string l[m].key) := hc 0 _ rfl
                  clear hc
                  have e := HV3.out
                  simp only [hp, decide_true, Bool.true_and, Nat.add_sub_cancel, List.getD_eq_getElem?_getD, List.getElem?_eq_getElem (show m < l.length by omega), Option.getD_some] at e
                  replace e := hide e
                  clear HV3
                  rcases hq : leS l[m + 1].key l[m].key with _ | _
                  · have hq2 : (Op.bytesLess l[m + 1].key.toList l[m].key.toList || (l[m + 1].key.toList == l[m].key.toList)) = false := hq
                    replace hq := hide hq
                    go_quiet (fail)
                    go_wp2
                    (go_roundw; (case rel => exact ⟨m + 2, by omega, by go_num, gr_drewN (hg.t (hg1.t (hg2.t hg3))) _, HO.out (e.out.trans (by rw [hq.out]; rfl))⟩); (case measure => simp [intOf]; omega))
                  · have hq2 : (Op.bytesLess l[m + 1].key.toList l[m].key.toList || (l[m + 1].key.toList == l[m].key.toList)) = true := hq
                    replace hq := hide hq
                    go_quiet (fail)
                    go_wp2_with fail
                    go_ret
                    exact ⟨ret_int (by have e2 := e.out; rw [hq.out, if_pos rfl] at e2; rw [HF.out (by rw [e2]; decide), e2]), gr_drewN (hg.t (hg1.t (hg2.t hg3))) _⟩
              · go_wp2_with (go_at_call 55; refine (outside_any _ _ _ _).mono ?_; rintro _ _ ⟨rfl, rfl⟩)
                go_ret
                exact ⟨ret_int (by have e := HV2.out; rw [h3, h4] at e; simp only [Bool.or_true, if_true] at e; rw [HF.out (by rw [e]; decide), e]), (by repeat (first | exact World.grownBy.refl _ _ | assumption | refine gr_alloc ?_ _ | (apply gr_tail; assumption) | refine gr_drewN ?_ _ | refine gr_drew ?_))⟩
            · go_wp2_with (go_at_call 55; refine (outside_any _ _ _ _).mono ?_; rintro _ _ ⟨rfl, rfl⟩)
              go_ret
              exact ⟨ret_int (by have e := HV2.out; rw [h3] at e; simp only [Bool.true_or, if_true] at e; rw [HF.out (by rw [e]; decide), e]), (by repeat (first | exact World.grownBy.refl _ _ | assumption | refine gr_alloc ?_ _ | (apply gr_tail; assumption) | refine gr_drewN ?_ _ | refine gr_drew ?_))⟩
      · have HB : Hid (jbsF l = 0) := by
          have : k = l.length := by omega
          subst this
          exact HE.out.trans hall.out
        replace hd := hide hd
        go_wp2_with fail
        go_ret
        exact ⟨ret_int HB.out.symm, hg⟩

set_option maxHeartbeats 4000000 in
theorem jobsFault_any (A : Option Addr) (c : Nat) (l : List Jb) (w : World) (hl : Sl w 0 A l) :
    Calls Tryd.prog 26 #[.slice A l.length c] w fun e w' => e = .returned (.int .i64 (jbsF l)) ∧ w.grownBy w' none := by
  have hm := hl.1
  unfold maxLen at hm
  by_cases h50 : 500 < l.length
  · have HE : Hid (jbsF l = 2) := by simp [Hid, jbsF, h50]
    have hd : decide ((l.length : Int) > 500) = true := by simp; omega
    go_enter Tryd.func26, Tryd.ntmps26
    go_wp2_with fail
    go_ret
    exact ⟨ret_int HE.out.symm, (by repeat (first | exact World.grownBy.refl _ _ | assumption | refine gr_alloc ?_ _ | (apply gr_tail; assumption) | refine gr_drewN ?_ _ | refine gr_drew ?_))⟩
  · have HE : Hid (jbsF l = scanN (jbF l) l.length) := by simp [Hid, jbsF, h50]
    have hd : decide ((l.length : Int) > 500) = false := by simp; omega
    go_enter Tryd.func26, Tryd.ntmps26
    go_wp2_with fail
    go_loopw [10] (fun i wr => ∃ k : Nat, k ≤ l.length ∧ i = .int .i64 k ∧ w.grownBy wr none ∧ Hid (scanN (jbF l) k = 0)) (fun i _ => l.length - (intOf i).toNat)
    case atStart => exact ⟨0, Nat.zero_le _, rfl, World.grownBy.refl _ _, rfl⟩
    case round =>
      obtain ⟨k, hk, rfl, hg, hall⟩ := hrel
      by_cases hlt : k < l.length
      · have hls := hl.gr hg (by simp)
        obtain ⟨g, o, cx, rfl, hb0, hb1, rfl, hc⟩ := hls.at_ (by decide) hlt
        have c0 : wr.cell? ⟨g, o + k * 4, none⟩ = some (.string l[k].key) := hc 0 _ rfl
        have c1 : wr.cell? ⟨g, o + k * 4 + 1, none⟩ = some (.string l[k].mat) := hc 1 _ rfl
        have c2 : wr.cell? ⟨g, o + k * 4 + 2, none⟩ = some (.int .i64 l[k].min) := hc 2 _ rfl
        have c3 : wr.cell? ⟨g, o + k * 4 + 3, none⟩ = some (.int .i64 l[k].due) := hc 3 _ rfl
        clear hc
        replace hd := hide hd
        go_wp2_with fail
        obtain ⟨w1, hw1⟩ : ∃ x, x = (wr).alloc (.cells [.string l[k].key, .string l[k].mat, .int .i64 l[k].min, .int .i64 l[k].due].toArray 58) := ⟨_, rfl⟩
        have hg1 : (wr).grownBy w1 none := by rw [hw1]; exact gr_alloc (World.grownBy.refl _ _) _
        have hb1 : Box w1 (wr).heap.size 58 [.string l[k].key, .string l[k].mat, .int .i64 l[k].min, .int .i64 l[k].due] := by rw [hw1]; exact Box.new _ _ _
        have hxs1 := hb1.lt
        rw [← hw1]
        clear hw1
        obtain ⟨x1, hx1⟩ : ∃ x, x = (wr).heap.size := ⟨_, rfl⟩
        rw [← hx1] at hb1 hxs1 ⊢
        have hxl1 : (wr).heap.size ≤ x1 := by omega
        clear hx1
        have HF : Hid (jbF l k ≠ 0 → jbsF l = jbF l k) := fun h => HE.out.trans (scanN_at hall.out h hlt)
        have HO : Hid (jbF l k = 0 → scanN (jbF l) (k + 1) = 0) := fun h => scanN_ok hall.out h
        have HV : Hid (jbF l k = if keyB l[k].key && keyB l[k].mat then (if outB l[k].min 1 100000 || outB l[k].due 0 1000000000 then 1 else if decide (0 < k) && leS l[k].key (l.getD (k - 1) default).key then 7 else 0) else 5) := by
          simp only [Hid, jbF, List.getD_eq_getElem?_getD, List.getElem?_eq_getElem hlt, Option.getD_some]
        clear c0 c1 c2 c3
        refine (key_any _ _).mono ?_
        rintro e w2 ⟨rfl, hg2⟩
        have b1 := ((hb1.pure hg2).c 1 rfl).1
        rcases h1 : keyB l[k].key with _ | _
        · go_wp2_with fail
          go_ret
          exact ⟨ret_int (by have e := HV.out; rw [h1] at e; simp only [Bool.false_and, Bool.false_eq_true, if_false] at e; rw [HF.out (by rw [e]; decide), e]), (by repeat (first | exact World.grownBy.refl _ _ | assumption | refine gr_alloc ?_ _ | (apply gr_tail; assumption) | refine gr_drewN ?_ _ | refine gr_drew ?_))⟩
        · go_wp2_with fail
          refine (key_any _ _).mono ?_
          rintro e w3 ⟨rfl, hg3⟩
          rcases h2 : keyB l[k].mat with _ | _
          · go_wp2_with fail
            go_ret
            exact ⟨ret_int (by have e := HV.out; rw [h1, h2] at e; simp only [Bool.and_false, Bool.false_eq_true, if_false] at e; rw [HF.out (by rw [e]; decide), e]), (by repeat (first | exact World.grownBy.refl _ _ | assumption | refine gr_alloc ?_ _ | (apply gr_tail; assumption) | refine gr_drewN ?_ _ | refine gr_drew ?_))⟩
          · clear b1
            have hb3 := hb1.pure (hg2.t hg3)
            have b0 := (hb3.c 0 rfl).1
            have b2 := (hb3.c 2 rfl).1
            have b3 := (hb3.c 3 rfl).1
            have HV2 : Hid (jbF l k = (if outB l[k].min 1 100000 || outB l[k].due 0 1000000000 then 1 else if decide (0 < k) && leS l[k].key (l.getD (k - 1) default).key then 7 else 0)) := by
              have e := HV.out; rw [h1, h2] at e; exact e
            replace h1 := hide h1
            replace h2 := hide h2
            clear HV
            rcases h3 : outB l[k].min 1 100000 with _ | _
            · rcases h4 : outB l[k].due 0 1000000000 with _ | _
              · have HV3 : Hid (jbF l k = (if decide (0 < k) && leS l[k].key (l.getD (k - 1) default).key then 7 else 0)) := by
                  have e := HV2.out; rw [h3, h4] at e; exact e
                clear HV2
                go_wp2_with (go_at_call 52; refine (in_any _ _ _ _).mono ?_; rintro _ _ ⟨rfl, rfl⟩; rw [in_out])
                rcases k with _ | m
                · go_quiet (fail)
                  go_wp2
                  have e := HV3.out
                  simp only [Nat.lt_irrefl, decide_false, Bool.false_and, Bool.false_eq_true, if_false] at e
                  (go_roundw; (case rel => exact ⟨1, by omega, by go_num, gr_drewN (hg.t (hg1.t (hg2.t hg3))) _, HO.out e⟩); (case measure => simp [intOf]; omega))
                · have hp : 0 < m + 1 := by omega
                  have hgw : w.grownBy w3 none := hg.t (hg1.t (hg2.t hg3))
                  obtain ⟨g', o', cx, e, _, _, rfl, hc⟩ := (hl.gr hgw (by simp)).at_ (by decide) (show m < l.length by omega)
                  cases e
                  have c0 : w3.cell? ⟨g, o + m * 4, none⟩ = some (.string l[m].key) := hc 0 _ rfl
                  clear hc
                  have e := HV3.out
                  simp only [hp, decide_true, Bool.true_and, Nat.add_sub_cancel, List.getD_eq_getElem?_getD, List.getElem?_eq_getElem (show m < l.length by omega), Option.getD_some] at e
                  replace e := hide e
                  clear HV3
                  rcases hq : leS l[m + 1].key l[m].key with _ | _
                  · have hq2 : (Op.bytesLess l[m + 1].key.toList l[m].key.toList || (l[m + 1].key.toList == l[m].key.toList)) = false := hq
                    replace hq := hide hq
                    go_quiet (fail)
                    go_wp2
                    (go_roundw; (case rel => exact ⟨m + 2, by omega, by go_num, gr_drewN (hg.t (hg1.t (hg2.t hg3))) _, HO.out (e.out.trans (by rw [hq.out]; rfl))⟩); (case measure => simp [intOf]; omega))
                  · have hq2 : (Op.bytesLess l[m + 1].key.toList l[m].key.toList || (l[m + 1].key.toList == l[m].key.toList)) = true := hq
                    replace hq := hide hq
                    go_quiet (fail)
                    go_wp2_with fail
                    go_ret
                    exact ⟨ret_int (by have e2 := e.out; rw [hq.out, if_pos rfl] at e2; rw [HF.out (by rw [e2]; decide), e2]), gr_drewN (hg.t (hg1.t (hg2.t hg3))) _⟩
              · go_wp2_with (go_at_call 52; refine (in_any _ _ _ _).mono ?_; rintro _ _ ⟨rfl, rfl⟩; rw [in_out])
                go_ret
                exact ⟨ret_int (by have e := HV2.out; rw [h3, h4] at e; simp only [Bool.or_true, if_true] at e; rw [HF.out (by rw [e]; decide), e]), (by repeat (first | exact World.grownBy.refl _ _ | assumption | refine gr_alloc ?_ _ | (apply gr_tail; assumption) | refine gr_drewN ?_ _ | refine gr_drew ?_))⟩
            · go_wp2_with (go_at_call 52; refine (in_any _ _ _ _).mono ?_; rintro _ _ ⟨rfl, rfl⟩; rw [in_out])
              go_ret
              exact ⟨ret_int (by have e := HV2.out; rw [h3] at e; simp only [Bool.true_or, if_true] at e; rw [HF.out (by rw [e]; decide), e]), (by repeat (first | exact World.grownBy.refl _ _ | assumption | refine gr_alloc ?_ _ | (apply gr_tail; assumption) | refine gr_drewN ?_ _ | refine gr_drew ?_))⟩
      · have HB : Hid (jbsF l = 0) := by
          have : k = l.length := by omega
          subst this
          exact HE.out.trans hall.out
        replace hd := hide hd
        go_wp2_with fail
        go_ret
        exact ⟨ret_int HB.out.symm, hg⟩

end Go.Proofs.YtanioobepfllgaaDoor

namespace Go.Proofs.YtanioobepfllgaaDoor
open Go.RowKit Go.Bl

theorem sl_inner {w : World} {A : Option Addr} {ls : List (List Int)} (hA : Sl w 0 A ls) {k : Nat} (hlt : k < ls.length) :
    ∃ g o B d, A = some ⟨g, o, none⟩ ∧ g < w.heap.size ∧ w.cell? ⟨g, o + k, none⟩ = some (.slice B ls[k].length d) ∧ Sl w 0 B ls[k] := by
  obtain ⟨g, o, cx, rfl, hb0, hb1, ⟨B, d, rfl, _, hs⟩, hc⟩ := hA.at_ (by decide) hlt
  exact ⟨g, o, B, d, rfl, hb1, by have := hc 0 _ rfl; rwa [show Enc.sz (List Int) = 1 from rfl, Nat.mul_one] at this, hs⟩

end Go.Proofs.YtanioobepfllgaaDoor

namespace Go.Proofs.YtanioobepfllgaaDoor
open Go.RowKit Go.Bl

theorem or2 (a b : Int) : orL [a, b] = if a = 0 then b else a := by
  by_cases h : a = 0 <;> by_cases h2 : b = 0 <;> simp [orL, h, h2]

set_option maxHeartbeats 800000 in
theorem fault_any (A : Option Addr) (c : Nat) (p : List Prn) (B : Option Addr) (d : Nat) (j : List Jb) (w : World) (hp : Sl w 0 A p) (hj : Sl w 0 B j) :
    Calls Tryd.prog 28 #[.slice A p.length c, .slice B j.length d] w fun e w' => e = .returned (.int .i64 (farmF p j)) ∧ w.grownBy w' none := by
  have hV : Hid (farmF p j = if prnsF p = 0 then jbsF j else prnsF p) := rfl
  go_enter Tryd.func28, Tryd.ntmps28
  go_wp2_with fail
  refine (checkPrinters_any _ _ _ _ hp).mono ?_
  rintro e w1 ⟨rfl, hg1⟩
  by_cases h0 : prnsF p = 0
  · have hb : (prnsF p != 0) = false := by simp [h0]
    replace h0 := hide h0
    go_wp2_with fail
    refine (checkJobs_any _ _ _ _ (hj.pure hg1)).mono ?_
    rintro e w2 ⟨rfl, hg2⟩
    go_wp2_with fail
    go_ret
    exact ⟨ret_int (by rw [hV.out, if_pos h0.out]), hg1.t hg2⟩
  · have hb : (prnsF p != 0) = true := by simp [h0]
    replace h0 := hide h0
    go_wp2_with fail
    go_ret
    exact ⟨ret_int (by rw [hV.out, if_neg h0.out]), hg1⟩

set_option maxHeartbeats 800000 in
theorem farmFault_any (A : Option Addr) (c : Nat) (p : List Prn) (B : Option Addr) (d : Nat) (j : List Jb) (w : World) (hp : Sl w 0 A p) (hj : Sl w 0 B j) :
    Calls Tryd.prog 9 #[.slice A p.length c, .slice B j.length d] w fun e w' => e = .returned (.int .i64 (farmF p j)) ∧ w.grownBy w' none := by
  have hV : Hid (orL [prnsF p, jbsF j] = farmF p j) := or2 _ _
  go_enter Tryd.func9, Tryd.ntmps9
  go_wp2_with fail
  refine (printersFault_any _ _ _ _ hp).mono ?_
  rintro e w1 ⟨rfl, hg1⟩
  go_wp2_with fail
  refine (jobsFault_any _ _ _ _ (hj.pure hg1)).mono ?_
  rintro e w2 ⟨rfl, hg2⟩
  go_wp2_with fail
  refine (or_any _ _ _ [prnsF p, jbsF j] _ (sl_intsAt _ 0 _ [prnsF p, jbsF j] _ (by first | rfl | simp) (Nat.zero_le _) (by simp [maxLen])) rfl).mono ?_
  rintro e w3 ⟨rfl, rfl⟩
  go_wp2_with fail
  go_ret
  exact ⟨ret_int hV.out, (by repeat (first | exact World.grownBy.refl _ _ | assumption | refine gr_alloc ?_ _ | (apply gr_tail; assumption) | refine gr_drewN ?_ _ | refine gr_drew ?_))⟩

set_option maxHeartbeats 400000 in
theorem isChange_any (n : Int) (w : World) :
    Calls Tryd.prog 29 #[.int .i64 n] w fun e w' => e = .returned (.bool (!outB n 0 100000)) ∧ w = w' := by
  go_enter Tryd.func29, Tryd.ntmps29
  go_wp2_with (go_at_call 55; refine (outside_any _ _ _ _).mono ?_; rintro _ _ ⟨rfl, rfl⟩)
  go_ret
  exact ⟨rfl, rfl⟩

set_option maxHeartbeats 400000 in
theorem changeFault_any (n : Int) (w : World) :
    Calls Tryd.prog 10 #[.int .i64 n] w fun e w' => e = .returned (.int .i64 (spanF n 0 100000)) ∧ w = w' := by
  go_enter Tryd.func10, Tryd.ntmps10
  go_wp2_with (go_at_call 27; refine (spanFault_any _ _ _ _).mono ?_; rintro _ _ ⟨rfl, rfl⟩)
  go_ret
  exact ⟨rfl, rfl⟩

end Go.Proofs.YtanioobepfllgaaDoor

namespace Go.Proofs.YtanioobepfllgaaDoor
open Go.RowKit Go.Bl

theorem contains_snoc {l : List Bool} {k : Nat} (h : k < l.length) (b : Bool) : (l.take (k + 1)).contains b = ((l.take k).contains b || b == l[k]) := by
  rw [take_snoc h, Bool.eq_iff_iff]; simp only [List.contains_iff_mem, List.mem_append, List.mem_singleton, Bool.or_eq_true, beq_iff_eq]

set_option maxHeartbeats 800000 in
theorem indexBool_any (A : Option Addr) (c : Nat) (l : List Bool) (w : World) (hl : Sl w 0 A l) :
    Calls Tryd.prog 85 #[.slice A l.length c, .bool false] w fun e w' => (∃ n : Int, e = .returned (.int .i64 n) ∧ decide (n ≥ 0) = l.contains false) ∧ w.grownBy w' none := by
  have hm := hl.1
  unfold maxLen at hm
  go_enter Tryd.func85, Tryd.ntmps85
  go_wp2_with fail
  go_loopw [8] (fun i wr => ∃ k : Nat, k ≤ l.length ∧ i = .int .i64 k ∧ w.grownBy wr none ∧ Hid ((l.take k).contains false = false)) (fun i _ => l.length - (intOf i).toNat)
  case atStart => exact ⟨0, Nat.zero_le _, rfl, World.grownBy.refl _ _, by simp [Hid]⟩
  case round =>
    obtain ⟨k, hk, rfl, hg, hall⟩ := hrel
    by_cases hlt : k < l.length
    · obtain ⟨g, o, cx, rfl, hb0, hb1, rfl, hc⟩ := (hl.pure hg).at_ (by decide) hlt
      have c0 : wr.cell? ⟨g, o + k, none⟩ = some (.bool l[k]) := by have := hc 0 _ rfl; rwa [show Enc.sz Bool = 1 from rfl, Nat.mul_one] at this
      clear hc
      have HS : Hid ((l.take (k + 1)).contains false = (false == l[k])) := by rw [Hid, contains_snoc hlt, hall.out, Bool.false_or]
      have HT : Hid (l[k] = false → l.contains false = true) := fun h => List.contains_iff_mem.2 (h ▸ List.getElem_mem hlt)
      rcases hv : l[k] with _ | _
      · rw [hv] at c0
        replace HT := hide (HT.out hv)
        clear hv HS hall
        go_wp2_with fail
        go_ret
        exact ⟨⟨_, rfl, by rw [HT.out]; simp⟩, hg⟩
      · rw [hv] at c0
        replace HS := HS.out
        rw [hv] at HS
        replace HS := hide HS
        clear hv HT
        go_wp2_with fail
        (go_roundw; (case rel => exact ⟨k + 1, by omega, by go_num, hg, HS.out⟩); (case measure => simp [intOf]; omega))
    · have HB : Hid (l.contains false = false) := by have := hall.out; rwa [List.take_of_length_le (by omega)] at this
      go_wp2_with fail
      go_ret
      exact ⟨⟨_, rfl, by rw [HB.out]; simp⟩, hg⟩

set_option maxHeartbeats 800000 in
theorem containsBool_any (A : Option Addr) (c : Nat) (l : List Bool) (w : World) (hl : Sl w 0 A l) :
    Calls Tryd.prog 78 #[.slice A l.length c, .bool false] w fun e w' => e = .returned (.bool (l.contains false)) ∧ w.grownBy w' none := by
  go_enter Tryd.func78, Tryd.ntmps78
  go_wp2_with fail
  refine (indexBool_any _ _ _ _ hl).mono ?_
  rintro e w1 ⟨⟨n, rfl, hn⟩, hg⟩
  replace hn := hide hn
  go_wp2_with fail
  go_ret
  exact ⟨ret_bool hn.out, hg⟩

end Go.Proofs.YtanioobepfllgaaDoor

namespace Go.Proofs.YtanioobepfllgaaDoor
open Go.RowKit Go.Bl

theorem info_boolF : (Tryd.prog.info? 4).map (fun i => (i.zero, i.size, i.bytes)) = some (some (.bool false), 1, 1) := by kernel_rfl

def GoodK (n : Nat) (L : List Int) (q : Nat) : Prop := ∀ i (h : i < L.length), i < q → 0 ≤ L[i] ∧ L[i] < n ∧ memI (L.take i) L[i] = false

set_option maxHeartbeats 4000000 in
set_option maxRecDepth 100000 in
theorem checkPlan_any (A : Option Addr) (c : Nat) (p : List Prn) (B : Option Addr) (d : Nat) (j : List Jb) (C : Option Addr) (e0 : Nat) (plan : List (List Int)) (w : World) (hp : Sl w 0 A p) (hj : Sl w 0 B j) (hpl : Sl w 0 C plan) :
    Calls Tryd.prog 68 #[.slice A p.length c, .slice B j.length d, .slice C plan.length e0] w fun e w' => e = .returned (.int .i64 (planF p j plan)) ∧ w.grownBy w' none := by
  have hj1 := hj.1
  unfold maxLen at hj1
  have hpm := hpl.1
  unfold maxLen at hpm
  have hV : Hid (planF p j plan = if farmF p j ≠ 0 then farmF p j else if plan.length ≠ p.length then 3 else planK j.length plan.flatten 0) := rfl
  go_enter Tryd.func68, Tryd.ntmps68
  go_wp2_with fail
  refine (fault_any _ _ _ _ _ _ _ hp hj).mono ?_
  rintro e w1 ⟨rfl, hg1⟩
  by_cases h0 : farmF p j = 0
  · have hb : (farmF p j != 0) = false := by simp [h0]
    have hj5 : j.length ≤ 500 := by
      unfold farmF at h0
      by_cases hz : prnsF p = 0
      · rw [if_pos hz] at h0; unfold jbsF at h0
        by_cases hq : 500 < j.length
        · rw [if_pos hq] at h0; cases h0
        · omega
      · rw [if_neg hz] at h0; exact absurd h0 hz
    replace h0 := hide h0
    by_cases h1 : plan.length = p.length
    · have hb2 : ((plan.length : Int) != p.length) = false := by simp [h1]
      have hV2 : Hid (planF p j plan = planK j.length plan.flatten 0) := by rw [Hid, hV.out, if_neg (by simp [h0.out]), if_neg (by simp [h1])]
      clear hV h1
      obtain ⟨i0, hi, hz, hi1, hi2⟩ := info_parts info_boolF
      obtain ⟨w2, hrun, hoS, hg2⟩ := run_makeOwn (P := Tryd.prog) w1 65 4 i0 _ false Tryd.underlying65 hi hz hi1 rfl rfl .i64 .i64 j.length (by rw [hi2]; omega) (by simp [maxLen]; omega)
      clear hi hz hi1 hi2 i0
      rw [← seenN_nil] at hoS
      obtain ⟨gs, hgs⟩ : ∃ g, g = w1.heap.size := ⟨_, rfl⟩
      rw [← hgs] at hrun hoS
      have hgs1 : gs < w2.heap.size := (hoS.blk_lt (g := gs) rfl).2
      have hgs0 : w.heap.size ≤ gs := by rw [hgs]; exact hg1.size
      have hgw : w.grownBy w2 none := hg1.t hg2
      clear hgs
      replace hoS := hoS.lower hgs0
      obtain ⟨L, hL⟩ : ∃ L, L = plan.flatten := ⟨_, rfl⟩
      have hfa : Hid (flatK plan plan.length = L) := by rw [Hid, hL]; exact flatK_all (Nat.le_refl _)
      have hfg : Hid (∀ k m (hk : k < plan.length) (hm : m < plan[k].length), ∃ h : (flatK plan k).length + m < L.length, L[(flatK plan k).length + m] = plan[k][m]) := by rw [Hid, hL]; exact fun k m hk hm => flat_get hk hm
      rw [← hL] at hV2
      replace hL := hide hL
      go_wp2_with fail
      clear hrun hg1 hg2
      go_loopw [29] (fun i wr => ∃ k q : Nat, k ≤ plan.length ∧ i = .int .i64 k ∧ q = (flatK plan k).length ∧ Own wr w.heap.size 4 (some ⟨gs, 0, none⟩) j.length (seenN j.length (L.take q)) ∧ w.grownBy wr none ∧ Hid (planF p j plan = planK j.length L q) ∧ Hid (GoodK j.length L q)) (fun i _ => plan.length - (intOf i).toNat)
      case atStart => exact ⟨0, 0, Nat.zero_le _, rfl, rfl, hoS, hgw, hV2, fun i _ h => by omega⟩
      case round =>
        clear hoS hgw hgs1 hV2
        obtain ⟨k, q, hk, rfl, hq, hoS, hg, hX, hG⟩ := hrel
        by_cases hlt : k < plan.length
        · obtain ⟨g, o, Bk, dk, rfl, hb1, c0, hsl⟩ := sl_inner hpl hlt
          replace c0 := hg.k c0
          have hq2 : Hid ((flatK plan (k + 1)).length = q + plan[k].length) := by rw [Hid, flatK_snoc hlt, List.length_append, hq]
          have hfk : Hid (∀ m (hm : m < plan[k].length), ∃ h : q + m < L.length, L[q + m] = plan[k][m]) := by rw [hq]; exact fun m hm => hfg.out k m hlt hm
          replace hq := hide hq
          obtain ⟨pk, hpk⟩ : ∃ x, x = plan[k] := ⟨_, rfl⟩
          rw [← hpk] at c0 hsl hq2 hfk
          replace hpk := hide hpk
          have hpkm := hsl.1
          unfold maxLen at hpkm
          go_wp2_with fail
          go_loopw [35] (fun i wr => ∃ m : Nat, m ≤ pk.length ∧ i = .int .i64 m ∧ Own wr w.heap.size 4 (some ⟨gs, 0, none⟩) j.length (seenN j.length (L.take (q + m))) ∧ w.grownBy wr none ∧ Hid (planF p j plan = planK j.length L (q + m)) ∧ Hid (GoodK j.length L (q + m))) (fun i _ => pk.length - (intOf i).toNat)
          case atStart => exact ⟨0, Nat.zero_le _, rfl, hoS, hg, hX, hG⟩
          case round =>
            clear hoS hg hX hG c0
            obtain ⟨m, hmk, rfl, hoS, hg, hX, hG⟩ := hrel
            by_cases hml : m < pk.length
            · obtain ⟨hqm, hget⟩ := hfk.out m hml
              obtain ⟨g2, o2, cx, rfl, _, hb2', rfl, hc⟩ := (hsl.pure hg).at_ (by decide) hml
              have c0 : _ := hc 0 _ rfl
              rw [show Enc.sz Int = 1 from rfl, Nat.mul_one, Nat.add_zero, ← hget] at c0
              clear hc
              have hst := hide (planK_step (n := j.length) hqm)
              have hgd := hG.out
              generalize hxx : L[q + m] = x at *
              by_cases hr : x < 0 ∨ (j.length : Int) ≤ x
              · have hF : Hid (planF p j plan = 1) := by rw [Hid, hX.out, hst.out, if_pos hr]
                clear hst hX hgd hget hG
                by_cases hr1 : x < 0
                · have hd1 : decide (x < 0) = true := by simp [hr1]
                  clear hr
                  go_wp2_with fail
                  go_ret
                  exact ⟨ret_int hF.out.symm, hg⟩
                · have hd1 : decide (x < 0) = false := by simp; omega
                  have hd2 : decide (x ≥ (j.length : Int)) = true := by simp; omega
                  clear hr
                  go_wp2_with fail
                  go_ret
                  exact ⟨ret_int hF.out.symm, hg⟩
              · have hX2 : Hid (planF p j plan = if memI (L.take (q + m)) x then 6 else planK j.length L (q + m + 1)) := by rw [Hid, hX.out, hst.out, if_neg hr]
                have hd1 : decide (x < 0) = false := by simp; omega
                have hd2 : decide (x ≥ (j.length : Int)) = false := by simp; omega
                obtain ⟨i, rfl⟩ : ∃ i : Nat, x = (i : Int) := ⟨x.toNat, by omega⟩
                have hij : i < j.length := by omega
                have hlS : i < (seenN j.length (L.take (q + m))).length := by rw [seenN_len]; exact hij
                have s0 := hoS.cell_bool hlS
                have sf := hoS.frozen i
                rw [seenN_get] at s0
                clear hst hX hr hget hG
                replace hxx := hide hxx
                replace hgd := hide hgd
                rcases hv : memI (L.take (q + m)) (i : Int) with _ | _
                · rw [hv] at s0 hX2
                  have hse := seenN_set (n := j.length) hqm hxx.out
                  have hoS2 := hoS.set_bool hlS true
                  rw [← hse] at hoS2
                  have hG2 : Hid (GoodK j.length L (q + m + 1)) := fun i' hi' hlt' => by
                    by_cases e : i' = q + m
                    · subst e; rw [hxx.out]; exact ⟨by omega, by omega, hv⟩
                    · exact hgd.out i' hi' (by omega)
                  have hgs2 := gr_set hg (p := ⟨gs, i, none⟩) (.inr hgs0) (.bool true)
                  replace hX2 := hide hX2.out
                  clear hse hgd
                  go_wp2_with fail
                  (go_roundw; (case rel => exact ⟨m + 1, by omega, by go_num, hoS2, hgs2, hX2.out, hG2⟩); (case measure => simp [intOf]; omega))
                · rw [hv] at s0 hX2
                  replace hX2 := hide (hX2.out.trans (if_pos rfl))
                  go_wp2_with fail
                  go_ret
                  exact ⟨ret_int hX2.out.symm, hg⟩
            · have hm2 : m = pk.length := by omega
              subst hm2
              go_wp2_with fail
              (go_roundw; (case rel => exact ⟨k + 1, q + pk.length, by omega, by go_num, hq2.out.symm, hoS, hg, hX, hG⟩); (case measure => simp [intOf]; omega))
        · have hq3 : Hid (planF p j plan = if L.length < j.length then 8 else 0) := by
            have : q = L.length := by rw [hq, show k = plan.length by omega, hfa.out]
            rw [Hid, hX.out, this, planK_end]
          have hse : Hid ((seenN j.length (L.take q)).contains false = decide (L.length < j.length)) := by
            have : q = L.length := by rw [hq, show k = plan.length by omega, hfa.out]
            rw [Hid, this, List.take_length]
            exact seenN_all fun i hh => hG.out i hh (by omega)
          have hC := containsBool_any _ j.length _ _ (hoS.sl.mono (Nat.zero_le _))
          rw [seenN_len, hse.out] at hC
          go_wp2_with fail
          refine hC.mono ?_
          rintro e w4 ⟨rfl, hg4⟩
          by_cases hb3 : L.length < j.length
          · have hb4 : decide (L.length < j.length) = true := by simp [hb3]
            rw [hb4]
            replace hq3 := hide (hq3.out.trans (if_pos hb3))
            clear hb3 hb4
            go_wp2_with fail
            go_ret
            exact ⟨ret_int hq3.out.symm, hg.t hg4⟩
          · have hb4 : decide (L.length < j.length) = false := by simp; omega
            rw [hb4]
            replace hq3 := hide (hq3.out.trans (if_neg hb3))
            clear hb3 hb4
            go_wp2_with fail
            go_ret
            exact ⟨ret_int hq3.out.symm, hg.t hg4⟩
    · have hb2 : ((plan.length : Int) != p.length) = true := by simp; omega
      have hV2 : Hid (planF p j plan = 3) := by rw [Hid, hV.out, if_neg (by simp [h0.out]), if_pos h1]
      clear hV h1
      go_wp2_with fail
      go_ret
      exact ⟨ret_int hV2.out.symm, hg1⟩
  · have hb : (farmF p j != 0) = true := by simp [h0]
    have hV2 : Hid (planF p j plan = farmF p j) := by rw [Hid, hV.out, if_pos h0]
    clear h0 hV
    go_wp2_with fail
    go_ret
    exact ⟨ret_int hV2.out.symm, hg1⟩

end Go.Proofs.YtanioobepfllgaaDoor

namespace Go.Proofs.YtanioobepfllgaaDoor
open Go.RowKit Go.Bl

def plannedF (p : List Prn) (j : List Jb) (plan : List (List Int)) (ch : Int) : Int := if planF p j plan = 0 then spanF ch 0 100000 else planF p j plan

theorem spanF_outB (n a b : Int) : spanF n a b = if outB n a b then 1 else 0 := by
  rcases h : outB n a b with _ | _
  · rw [spanF_in (by rw [in_out, h]; rfl)]; rfl
  · rw [spanF_out (by rw [in_out, h]; rfl)]; rfl

set_option maxHeartbeats 1000000 in
theorem planned_any (A : Option Addr) (c : Nat) (p : List Prn) (B : Option Addr) (d : Nat) (j : List Jb) (C : Option Addr) (e0 : Nat) (plan : List (List Int)) (ch : Int) (w : World) (hp : Sl w 0 A p) (hj : Sl w 0 B j) (hpl : Sl w 0 C plan) :
    Calls Tryd.prog 60 #[.slice A p.length c, .slice B j.length d, .slice C plan.length e0, .int .i64 ch] w fun e w' => e = .returned (.int .i64 (plannedF p j plan ch)) ∧ w.grownBy w' none := by
  have hV : Hid (plannedF p j plan ch = if planF p j plan = 0 then spanF ch 0 100000 else planF p j plan) := rfl
  go_enter Tryd.func60, Tryd.ntmps60
  go_wp2_with fail
  refine (checkPlan_any _ _ _ _ _ _ _ _ _ _ hp hj hpl).mono ?_
  rintro e w1 ⟨rfl, hg1⟩
  by_cases h0 : planF p j plan = 0
  · have hb : (planF p j plan != 0) = false := by simp [h0]
    rw [if_pos h0, spanF_outB] at hV
    replace h0 := hide h0
    rcases h1 : outB ch 0 100000 with _ | _
    · rw [h1] at hV
      go_wp2_with (go_at_call 29; refine (isChange_any _ _).mono ?_; rintro _ _ ⟨rfl, rfl⟩; rw [h1])
      go_ret
      exact ⟨ret_int hV.out.symm, hg1⟩
    · rw [h1] at hV
      go_wp2_with (go_at_call 29; refine (isChange_any _ _).mono ?_; rintro _ _ ⟨rfl, rfl⟩; rw [h1])
      go_ret
      exact ⟨ret_int hV.out.symm, hg1⟩
  · have hb : (planF p j plan != 0) = true := by simp [h0]
    rw [if_neg h0] at hV
    clear h0
    go_wp2_with fail
    go_ret
    exact ⟨ret_int hV.out.symm, hg1⟩

end Go.Proofs.YtanioobepfllgaaDoor

namespace Go.Proofs.YtanioobepfllgaaDoor
open Go.RowKit Go.Bl

/-- a job is done by a clock -/
def doC (a : Int × ByteArray) (x : Jb) (ch : Int) : Int × ByteArray := (a.1 + (if a.2 = x.mat then 0 else ch) + x.min, x.mat)

theorem toList_inj {a b : ByteArray} (h : a.toList = b.toList) : a = b := by
  rw [Lib.toList_data, Lib.toList_data] at h
  exact ByteArray.ext (Array.toList_inj.1 h)

set_option maxHeartbeats 1000000 in
theorem clockDo_any (n : Int) (m : ByteArray) (x : Jb) (ch : Int) (w : World) (h0 : 0 ≤ n ∧ n ≤ 1000000000) (h1 : 0 ≤ ch ∧ ch ≤ 1000000) (h2 : 0 ≤ x.min ∧ x.min ≤ 1000000) :
    Calls Tryd.prog 31 #[.agg #[.int .i64 n, .string m], .agg #[.string x.key, .string x.mat, .int .i64 x.min, .int .i64 x.due], .int .i64 ch] w fun e w' => e = .returned (.agg #[.int .i64 (doC (n, m) x ch).1, .string (doC (n, m) x ch).2]) ∧ w.grownBy w' none := by
  by_cases hm : m = x.mat
  · have hV : doC (n, m) x ch = (n + x.min, x.mat) := by simp [doC, hm]
    have hb : (m.toList == x.mat.toList) = true := by simp [hm]
    rw [hV]
    go_enter Tryd.func31, Tryd.ntmps31
    go_wp2_with fail
    refine bodyPost_ret (v := .agg #[.int .i64 (n + x.min), .string x.mat]) (by simp [results, Tryd.results31, go_sem]) rfl ⟨rfl, ?_⟩
    exact (by repeat (first | exact World.grownBy.refl _ _ | assumption | refine gr_alloc ?_ _ | (apply gr_tail; assumption) | refine gr_drewN ?_ _ | refine gr_drew ?_))
  · have hV : doC (n, m) x ch = (n + ch + x.min, x.mat) := by simp [doC, hm]
    have hb : (m.toList == x.mat.toList) = false := by simp; exact fun e => hm (toList_inj e)
    rw [hV]
    go_enter Tryd.func31, Tryd.ntmps31
    go_wp2_with fail
    refine bodyPost_ret (v := .agg #[.int .i64 (n + ch + x.min), .string x.mat]) (by simp [results, Tryd.results31, go_sem]) rfl ⟨rfl, ?_⟩
    exact (by repeat (first | exact World.grownBy.refl _ _ | assumption | refine gr_alloc ?_ _ | (apply gr_tail; assumption) | refine gr_drewN ?_ _ | refine gr_drew ?_))

end Go.Proofs.YtanioobepfllgaaDoor

namespace Go.Proofs.YtanioobepfllgaaDoor
open Go Go.RowKit Go.Bl

def jobAt (j : List Jb) (i : Int) : Jb := j.getD i.toNat default
/-- the ends of a row of jobs, from a clock on -/
def rowC (j : List Jb) (ch : Int) (c : Int × ByteArray) : List Int → List (Int × Int)
  | [] => []
  | i :: r => (i, (doC c (jobAt j i) ch).1) :: rowC j ch (doC c (jobAt j i) ch) r

def clkC (j : List Jb) (ch : Int) (c : Int × ByteArray) (row : List Int) : Int × ByteArray := row.foldl (fun c i => doC c (jobAt j i) ch) c

def rowP (p : List Prn) (j : List Jb) (ch : Int) (plan : List (List Int)) (k : Nat) : List (Int × Int) := rowC j ch (0, (p.getD k default).mat) (plan.getD k [])

def pairsK (p : List Prn) (j : List Jb) (plan : List (List Int)) (ch : Int) (k : Nat) : List (Int × Int) := ((List.range k).map (rowP p j ch plan)).flatten

def outO (n : Nat) (L : List (Int × Int)) : List Int := L.foldl (fun o q => o.set q.1.toNat q.2) (List.replicate n 0)

def lastO (L : List (Int × Int)) : Int := L.foldl (fun a q => max a q.2) 0

def endsF (p : List Prn) (j : List Jb) (plan : List (List Int)) (ch : Int) : List Int := outO j.length (pairsK p j plan ch plan.length)

def endF (p : List Prn) (j : List Jb) (plan : List (List Int)) (ch : Int) : Int := lastO (pairsK p j plan ch plan.length)

theorem rowC_append (j : List Jb) (ch : Int) : ∀ (c : Int × ByteArray) (a b : List Int), rowC j ch c (a ++ b) = rowC j ch c a ++ rowC j ch (clkC j ch c a) b
  | _, [], _ => rfl
  | c, i :: a, b => by simp only [List.cons_append, rowC, rowC_append j ch _ a b]; rfl

theorem rowC_snoc (j : List Jb) (ch : Int) (c : Int × ByteArray) (a : List Int) (i : Int) : rowC j ch c (a ++ [i]) = rowC j ch c a ++ [(i, (doC (clkC j ch c a) (jobAt j i) ch).1)] := by rw [rowC_append]; rfl

theorem clkC_snoc (j : List Jb) (ch : Int) (c : Int × ByteArray) (a : List Int) (i : Int) : clkC j ch c (a ++ [i]) = doC (clkC j ch c a) (jobAt j i) ch := by simp [clkC]

theorem outO_snoc (n : Nat) (L : List (Int × Int)) (q : Int × Int) : outO n (L ++ [q]) = (outO n L).set q.1.toNat q.2 := by simp [outO]

theorem lastO_snoc (L : List (Int × Int)) (q : Int × Int) : lastO (L ++ [q]) = max (lastO L) q.2 := by simp [lastO]

theorem outO_len (n : Nat) (L : List (Int × Int)) : (outO n L).length = n := by
  have : ∀ (L : List (Int × Int)) (o : List Int), (L.foldl (fun o q => o.set q.1.toNat q.2) o).length = o.length := by
    intro L; induction L with
    | nil => intro o; rfl
    | cons q L ih => intro o; rw [List.foldl_cons, ih, List.length_set]
  simp [outO, this]

theorem pairsK_succ (p : List Prn) (j : List Jb) (plan : List (List Int)) (ch : Int) (k : Nat) : pairsK p j plan ch (k + 1) = pairsK p j plan ch k ++ rowP p j ch plan k := by
  unfold pairsK; rw [List.range_succ, List.map_append, List.flatten_append]; simp

theorem jobAt_nat {j : List Jb} {i : Nat} (h : i < j.length) : jobAt j i = j[i] := by unfold jobAt; rw [Int.toNat_natCast]; simp [List.getD, h]

/-- what is asked of printers, jobs, plans and changes that are right -/
structure JOk (j : List Jb) (ch : Int) : Prop where
  len : j.length ≤ 500
  bd : ∀ x ∈ j, 1 ≤ x.min ∧ x.min ≤ 100000 ∧ 0 ≤ x.due ∧ x.due ≤ 1000000000
  chg : 0 ≤ ch ∧ ch ≤ 100000

structure POk (p : List Prn) (j : List Jb) (plan : List (List Int)) (ch : Int) : Prop extends JOk j ch where
  row : plan.length = p.length
  few : plan.flatten.length ≤ 500
  ix : ∀ i ∈ plan.flatten, 0 ≤ i ∧ i < j.length

theorem scanN_zero {f : Nat → Int} : ∀ {n : Nat}, scanN f n = 0 → ∀ k, k < n → f k = 0
  | 0, _, k, hk => by omega
  | n + 1, h, k, hk => by
    by_cases e : scanN f n = 0
    · have hn : f n = 0 := by simpa [scanN, e] using h
      by_cases he : k = n
      · rw [he]; exact hn
      · exact scanN_zero e k (by omega)
    · simp [scanN, e] at h

theorem jok_of {p : List Prn} {j : List Jb} {ch : Int} (h : farmF p j = 0) (hc : spanF ch 0 100000 = 0) : JOk j ch := by
  have h2 : jbsF j = 0 := by
    unfold farmF at h
    by_cases hz : prnsF p = 0
    · rw [if_pos hz] at h; exact h
    · rw [if_neg hz] at h; exact absurd h hz
  unfold jbsF at h2
  have hlen : j.length ≤ 500 := by
    by_cases hq : 500 < j.length
    · rw [if_pos hq] at h2; cases h2
    · omega
  rw [if_neg (by omega)] at h2
  refine ⟨hlen, fun x hx => ?_, ?_⟩
  · obtain ⟨k, hk, rfl⟩ := List.getElem_of_mem hx
    have := scanN_zero h2 k hk
    unfold jbF at this
    have e : j.getD k default = j[k] := by simp [List.getD, hk]
    rw [e] at this
    by_cases h1 : (keyB j[k].key && keyB j[k].mat) = true
    · rw [if_pos h1] at this
      by_cases h3 : (outB j[k].min 1 100000 || outB j[k].due 0 1000000000) = true
      · rw [if_pos h3] at this; cases this
      · simp [outB] at h3; omega
    · rw [if_neg h1] at this; cases this
  · rw [spanF_outB] at hc
    by_cases ho : outB ch 0 100000 = true
    · rw [if_pos ho] at hc; cases hc
    · simp [outB] at ho; omega

theorem planIn_zero (n : Nat) : ∀ (L T : List Int), planIn n T L = 0 → ∀ i (h : i < L.length), 0 ≤ L[i] ∧ L[i] < n ∧ memI (T ++ L.take i) L[i] = false
  | [], _, _, i, h => by simp at h
  | k :: r, T, h, i, hi => by
    unfold planIn at h
    by_cases h1 : k < 0 ∨ (n : Int) ≤ k
    · rw [if_pos h1] at h; cases h
    · rw [if_neg h1] at h
      rcases hm : memI T k with _ | _
      · rw [hm] at h
        have ih := planIn_zero n r (T ++ [k]) h
        rcases i with _ | i
        · simp [hm]; omega
        · have := ih i (by simpa using hi)
          simpa using this
      · rw [hm] at h; cases h

theorem planK_good {n : Nat} {L : List Int} (h : planK n L 0 = 0) : ∀ i (h : i < L.length), 0 ≤ L[i] ∧ L[i] < n ∧ memI (L.take i) L[i] = false := by
  intro i hi
  have := planIn_zero n L [] (by simpa [planK] using h) i hi
  simpa using this

theorem planK_few {n : Nat} {L : List Int} (h : planK n L 0 = 0) : L.length ≤ n := by
  have hg := planK_good h
  have hc := seenN_count (n := n) (L := L) (Nat.le_refl _) (fun i hh _ => hg i hh)
  rw [List.take_length] at hc
  have := List.count_le_length (a := true) (l := seenN n L)
  rw [hc, seenN_len] at this
  exact this

theorem pok_of {p : List Prn} {j : List Jb} {plan : List (List Int)} {ch : Int} (h : plannedF p j plan ch = 0) : POk p j plan ch := by
  unfold plannedF at h
  by_cases h0 : planF p j plan = 0
  · rw [if_pos h0] at h
    unfold planF at h0
    by_cases h1 : farmF p j = 0
    · rw [if_neg (by simp [h1])] at h0
      by_cases h2 : plan.length = p.length
      · rw [if_neg (by simp [h2])] at h0
        have hj := jok_of h1 h
        exact { toJOk := hj, row := h2, few := Nat.le_trans (planK_few h0) hj.len, ix := fun i hi => by
                  obtain ⟨k, hk, rfl⟩ := List.getElem_of_mem hi
                  exact ⟨(planK_good h0 k hk).1, (planK_good h0 k hk).2.1⟩ }
      · rw [if_pos (by simpa using h2)] at h0; cases h0
    · rw [if_pos (by simpa using h1)] at h0; exact absurd h0 h1
  · rw [if_neg h0] at h; exact absurd h h0

theorem doC_bd {j : List Jb} {ch : Int} (h : JOk j ch) {c : Int × ByteArray} {i : Int} (hi : 0 ≤ i ∧ i < j.length) {N : Int} (hc : 0 ≤ c.1 ∧ c.1 ≤ N) : 0 ≤ (doC c (jobAt j i) ch).1 ∧ (doC c (jobAt j i) ch).1 ≤ N + 200000 := by
  obtain ⟨k, rfl⟩ := Int.eq_ofNat_of_zero_le hi.1
  have hk : k < j.length := by omega
  rw [jobAt_nat hk]
  have hb := h.bd _ (List.getElem_mem hk)
  have hch := h.chg
  unfold doC
  by_cases hm : c.2 = j[k].mat
  · rw [if_pos hm]; simp only; omega
  · rw [if_neg hm]; simp only; omega

theorem clkC_bd {j : List Jb} {ch : Int} (h : JOk j ch) : ∀ (row : List Int) (_ : ∀ i ∈ row, 0 ≤ i ∧ i < (j.length : Int)) (c : Int × ByteArray) {N : Int} (_ : 0 ≤ c.1 ∧ c.1 ≤ N), 0 ≤ (clkC j ch c row).1 ∧ (clkC j ch c row).1 ≤ N + 200000 * row.length
  | [], _, c, N, hc => by unfold clkC; simpa using hc
  | i :: r, hr, c, N, hc => by
    have h1 := doC_bd h (hr i (by simp)) hc
    have := clkC_bd h r (fun k hk => hr k (by simp [hk])) (doC c (jobAt j i) ch) h1
    rw [show clkC j ch c (i :: r) = clkC j ch (doC c (jobAt j i) ch) r from rfl, List.length_cons]
    constructor
    · exact this.1
    · have := this.2; push_cast; omega

theorem row_in {plan : List (List Int)} {k : Nat} (hk : k < plan.length) : ∀ i ∈ plan[k], i ∈ plan.flatten := fun i hi => List.mem_flatten.2 ⟨_, List.getElem_mem hk, hi⟩

theorem row_len {plan : List (List Int)} {k : Nat} (hk : k < plan.length) : plan[k].length ≤ plan.flatten.length := by
  have e : plan.flatten = flatK plan k ++ (plan[k] ++ (plan.drop (k + 1)).flatten) := by
    unfold flatK
    conv => lhs; rw [← List.take_append_drop k plan, List.flatten_append, List.drop_eq_getElem_cons hk, List.flatten_cons]
  rw [e]; simp; omega

end Go.Proofs.YtanioobepfllgaaDoor

namespace Go.Proofs.YtanioobepfllgaaDoor
open Go Go.RowKit Go.Bl

set_option maxHeartbeats 4000000 in
set_option maxRecDepth 100000 in
theorem endsJ_any (A : Option Addr) (c : Nat) (p : List Prn) (B : Option Addr) (d : Nat) (j : List Jb) (C : Option Addr) (e0 : Nat) (plan : List (List Int)) (ch : Int) (w : World) (hp : Sl w 0 A p) (hj : Sl w 0 B j) (hpl : Sl w 0 C plan) (hok : POk p j plan ch) :
    Calls Tryd.prog 61 #[.slice A p.length c, .slice B j.length d, .slice C plan.length e0, .int .i64 ch] w fun e w' => ∃ g, e = .returned (.tuple #[.slice (some ⟨g, 0, none⟩) j.length j.length, .int .i64 (endF p j plan ch)]) ∧ Own w' w.heap.size 3 (some ⟨g, 0, none⟩) j.length (endsF p j plan ch) ∧ w.grownBy w' none := by
  have hj5 := hok.len
  have hch := hok.chg
  have hrw := hok.row
  have hpm := hpl.1
  unfold maxLen at hpm
  obtain ⟨i0, hi, hz, hi1, hi2⟩ := info_parts info_int
  obtain ⟨w2, hrun, hoO, hg2⟩ := run_makeOwn (P := Tryd.prog) w 22 3 i0 _ (0 : Int) Tryd.underlying22 hi hz hi1 rfl rfl .i64 .i64 j.length (by rw [hi2]; omega) (by simp [maxLen]; omega)
  clear hi hz hi1 hi2 i0
  obtain ⟨gs, hgs⟩ : ∃ g, g = w.heap.size := ⟨_, rfl⟩
  rw [← hgs] at hrun hoO
  have hgs0 : w.heap.size ≤ gs := by omega
  clear hgs
  replace hoO := hoO.lower hgs0
  replace hok := hide hok
  go_enter Tryd.func61, Tryd.ntmps61
  go_wp2_with fail
  clear hrun
  go_loopw [11, 22] (fun l i wr => ∃ k : Nat, k ≤ plan.length ∧ i = .int .i64 k ∧ l = .int .i64 (lastO (pairsK p j plan ch k)) ∧ Own wr w.heap.size 3 (some ⟨gs, 0, none⟩) j.length (outO j.length (pairsK p j plan ch k)) ∧ w.grownBy wr none) (fun _ i _ => plan.length - (intOf i).toNat)
  case atStart => exact ⟨0, Nat.zero_le _, rfl, rfl, hoO, hg2⟩
  case round =>
    clear hoO hg2
    obtain ⟨k, hk, rfl, rfl, hoO, hg⟩ := hrel
    by_cases hlt : k < plan.length
    · obtain ⟨g, o, Bk, dk, rfl, hb1, c0, hsl⟩ := sl_inner hpl hlt
      replace c0 := hg.k c0
      have hpk : k < p.length := by omega
      clear hrw
      obtain ⟨ga, oa, cx, rfl, _, hb2, rfl, hc⟩ := (hp.pure hg).at_ (by decide) hpk
      have d0 : wr.cell? ⟨ga, oa + k * 2, none⟩ = some (.string p[k].key) := hc 0 _ rfl
      have d1 : wr.cell? ⟨ga, oa + k * 2 + 1, none⟩ = some (.string p[k].mat) := hc 1 _ rfl
      clear hc
      have hps : pairsK p j plan ch (k + 1) = pairsK p j plan ch k ++ rowC j ch (0, p[k].mat) plan[k] := by rw [pairsK_succ]; unfold rowP; simp [List.getD, hlt, hpk]
      replace hps := hide hps
      have hin := hide (fun i hi => hok.out.ix i (row_in hlt i hi))
      have hln := hide (Nat.le_trans (row_len hlt) hok.out.few)
      obtain ⟨row, hrow⟩ : ∃ x, x = plan[k] := ⟨_, rfl⟩
      rw [← hrow] at c0 hsl hps hin hln
      clear hrow
      have hrm := hln.out
      generalize hPk : pairsK p j plan ch k = Pk at *
      clear hPk
      go_upto_region 7 with fail
      obtain ⟨w0, hw0⟩ : ∃ x, x = (wr).alloc (.cells [.int .i64 0, .string p[k].mat].toArray 70) := ⟨_, rfl⟩
      have hg0 : (wr).grownBy w0 none := by rw [hw0]; exact gr_alloc (World.grownBy.refl _ _) _
      have hb0 : Box w0 (wr).heap.size 70 [.int .i64 0, .string p[k].mat] := by rw [hw0]; exact Box.new _ _ _
      have hxs0 := hb0.lt
      rw [← hw0]
      clear hw0
      obtain ⟨x0, hx0⟩ : ∃ x, x = (wr).heap.size := ⟨_, rfl⟩
      rw [← hx0] at hb0 hxs0 ⊢
      have hxl0 : (wr).heap.size ≤ x0 := by omega
      clear hx0
      replace c0 := hg0.k c0
      have hx0 : w.heap.size ≤ x0 := Nat.le_trans hg.size hxl0
      replace hoO := hoO.pure hg0
      replace hg := gr_trans hg hg0
      clear hg0 d0 d1
      generalize hmt : p[k].mat = mat at *
      clear hmt
      go_wp2_with fail
      go_loopw [11, 35] (fun l i wr => ∃ m : Nat, m ≤ row.length ∧ i = .int .i64 m ∧ l = .int .i64 (lastO (Pk ++ rowC j ch (0, mat) (row.take m))) ∧ Own wr w.heap.size 3 (some ⟨gs, 0, none⟩) j.length (outO j.length (Pk ++ rowC j ch (0, mat) (row.take m))) ∧ Box wr x0 70 [.int .i64 (clkC j ch (0, mat) (row.take m)).1, .string (clkC j ch (0, mat) (row.take m)).2] ∧ w.grownBy wr none) (fun _ i _ => row.length - (intOf i).toNat)
      case atStart => exact ⟨0, Nat.zero_le _, rfl, by simp [rowC], by simpa [rowC] using hoO, hb0, hg⟩
      case round =>
        clear hoO hg hb0 c0
        obtain ⟨m, hmk, rfl, rfl, hoO, hb0, hg⟩ := hrel
        by_cases hml : m < row.length
        · obtain ⟨g2, o2, cx, rfl, _, hb2', rfl, hc⟩ := (hsl.pure hg).at_ (by decide) hml
          have r0 : _ := hc 0 _ rfl
          rw [show Enc.sz Int = 1 from rfl, Nat.mul_one, Nat.add_zero] at r0
          clear hc
          have hri := hin.out _ (List.getElem_mem hml)
          obtain ⟨x, hx⟩ := Int.eq_ofNat_of_zero_le hri.1
          have hxl : x < j.length := by omega
          have htk := take_snoc hml
          have hps2 : Hid (Pk ++ rowC j ch (0, mat) (row.take (m + 1)) = (Pk ++ rowC j ch (0, mat) (row.take m)) ++ [((x : Int), (doC (clkC j ch (0, mat) (row.take m)) j[x] ch).1)]) := by rw [Hid, htk, rowC_snoc, List.append_assoc, hx, jobAt_nat hxl]
          have hck2 : Hid (clkC j ch (0, mat) (row.take (m + 1)) = doC (clkC j ch (0, mat) (row.take m)) j[x] ch) := by rw [Hid, htk, clkC_snoc, hx, jobAt_nat hxl]
          have hbd := clkC_bd hok.out.toJOk (row.take m) (fun i hi => hin.out i (List.mem_of_mem_take hi)) (0, mat) (N := 0) (by simp)
          rw [List.length_take, Nat.min_eq_left hmk] at hbd
          obtain ⟨gj, oj, cx, rfl, _, hbj, rfl, hc⟩ := (hj.pure hg).at_ (by decide) hxl
          have hjb := hok.out.bd _ (List.getElem_mem hxl)
          rw [hx] at r0
          clear htk hri hx
          generalize hQ : Pk ++ rowC j ch (0, mat) (row.take m) = Q at *
          generalize hcl : clkC j ch (0, mat) (row.take m) = cl at *
          clear hQ hcl
          obtain ⟨cle, clm⟩ := cl
          have xb := hbd.1
          have xb2 := hbd.2
          simp only at xb xb2
          have j0 : wr.cell? ⟨gj, oj + x * 4, none⟩ = some (.string j[x].key) := hc 0 _ rfl
          have j1 : wr.cell? ⟨gj, oj + x * 4 + 1, none⟩ = some (.string j[x].mat) := hc 1 _ rfl
          have j2 : wr.cell? ⟨gj, oj + x * 4 + 2, none⟩ = some (.int .i64 j[x].min) := hc 2 _ rfl
          have j3 : wr.cell? ⟨gj, oj + x * 4 + 3, none⟩ = some (.int .i64 j[x].due) := hc 3 _ rfl
          clear hc
          generalize hY : j[x] = Y at *
          have hcd := clockDo_any cle clm Y ch
          obtain ⟨z, hz⟩ : ∃ z, z = doC (cle, clm) Y ch := ⟨_, rfl⟩
          rw [← hz] at hcd hck2 hps2
          clear hz
          go_upto_region 10 with fail
          refine wp_region_tree (fun wx => wr.grownBy wx none) [1, 2, 2, 2, 1, 2, 0, 0] (.bl 0 (.bl 1 (.bl 2 (.bl 3 (.bl 4 (.bl 5 (.ef 6 (.ef 7 .done)))))))) (by kernel_rfl) (by kernel_rfl) (gr_drew (World.grownBy.refl _ _)) ?_
          obtain ⟨W1, hW1⟩ : ∃ x, x = (wr).drew := ⟨_, rfl⟩
          rw [← hW1]
          have hgW1 : (wr).grownBy W1 none := by rw [hW1]; exact gr_drew (World.grownBy.refl _ _)
          clear hW1
          refine tree_b rfl rfl rfl rfl _ rfl (by simp) (fun K hK => ?_)
          apply Exists.intro
          refine ⟨fun wq hq K' hK' => ?_, ?_⟩
          · have jj0 := hq.k j0
            have jj1 := hq.k j1
            have jj2 := hq.k j2
            have jj3 := hq.k j3
            have ⟨bb0, _⟩ := (hb0.pure hq).c 0 rfl
            have ⟨bb1, _⟩ := (hb0.pure hq).c 1 rfl
            go_wp2_with fail
            exact hK'
          go_simp
          refine hK _ ?_
          clear hK K
          refine tree_p rfl rfl rfl rfl _ rfl (by simp) (fun K hK => ?_)
          apply Exists.intro
          refine ⟨fun wq K' hK' => ?_, ?_⟩
          · go_wp2_with fail
            exact hK'
          go_simp
          refine hK _ ?_
          clear hK K
          refine tree_p rfl rfl rfl rfl _ rfl (by simp) (fun K hK => ?_)
          apply Exists.intro
          refine ⟨fun wq K' hK' => ?_, ?_⟩
          · go_wp2_with fail
            exact hK'
          go_simp
          refine hK _ ?_
          clear hK K
          refine tree_p rfl rfl rfl rfl _ rfl (by simp) (fun K hK => ?_)
          apply Exists.intro
          refine ⟨fun wq K' hK' => ?_, ?_⟩
          · go_wp2_with fail
            exact hK'
          go_simp
          refine hK _ ?_
          clear hK K
          refine tree_b rfl rfl rfl rfl _ rfl (by simp) (fun K hK => ?_)
          apply Exists.intro
          refine ⟨fun wq hq K' hK' => ?_, ?_⟩
          · have jj0 := hq.k j0
            have jj1 := hq.k j1
            have jj2 := hq.k j2
            have jj3 := hq.k j3
            have ⟨bb0, _⟩ := (hb0.pure hq).c 0 rfl
            have ⟨bb1, _⟩ := (hb0.pure hq).c 1 rfl
            go_wp2_with fail
            exact hK'
          go_simp
          refine hK _ ?_
          clear hK K
          refine tree_p rfl rfl rfl rfl _ rfl (by simp) (fun K hK => ?_)
          apply Exists.intro
          refine ⟨fun wq K' hK' => ?_, ?_⟩
          · go_wp2_with fail
            exact hK'
          go_simp
          refine hK _ ?_
          clear hK K
          refine tree_e0 (by kernel_rfl) rfl rfl (fun K hK => ?_)
          go_wp2_with fail
          refine (hcd W1 ?_ ?_ ?_).mono ?_
          · omega
          · omega
          · omega
          rintro e w6 ⟨rfl, hg6⟩
          have hg6w := gr_trans hgW1 hg6
          go_wp2_with fail
          try go_simp
          refine hK _ _ trivial ?_
          clear hK K
          refine tree_e0 (by kernel_rfl) rfl rfl (fun K hK => ?_)
          have hb6 := hb0.pure hg6w
          obtain ⟨y0, z0⟩ := hb6.c 0 rfl
          obtain ⟨y1, z1⟩ := hb6.c 1 rfl
          go_wp2_with fail
          try go_simp
          refine hK _ _ trivial ?_
          clear hK K
          refine tree_done ?_
          have hoO6 := hoO.pure hg6w
          have hne := hb6.ne_own hoO6 (by decide)
          obtain ⟨w8, hw8⟩ : ∃ x, x = (w6.setCell ⟨x0, 0, none⟩ (.int .i64 z.1)).setCell ⟨x0, 1, none⟩ (.string z.2) := ⟨_, rfl⟩
          have hb8 : Box w8 x0 70 [.int .i64 z.1, .string z.2] := by rw [hw8]; exact (hb6.set_ 0 _ (by simp)).set_ 1 _ (by simp)
          have hoO8 : Own w8 w.heap.size 3 (some ⟨gs, 0, none⟩) j.length (outO j.length Q) := by rw [hw8]; exact (hoO6.set_other _ hne).set_other _ hne
          have hg8 : w.grownBy w8 none := by rw [hw8]; exact gr_set (gr_set (gr_trans hg hg6w) (.inr hx0) _) (.inr hx0) _
          rw [← hw8]
          clear hw8 y0 y1 z0 z1 hb6 hoO6 hg6w hg6 hgW1 hcd j0 j1 j2 j3 r0 hb0 hg hoO hY hjb xb xb2 hbd hne
          obtain ⟨y0, z0⟩ := hb8.c 0 rfl
          obtain ⟨y1, z1⟩ := hb8.c 1 rfl
          have hlO : x < (outO j.length Q).length := by rw [outO_len]; exact hxl
          have o0 := hoO8.cell_int hlO
          have of := hoO8.frozen x
          have hoO9 := hoO8.set_int x z.1
          have hb9 := hb8.set_other (g' := gs) (i := x) (.int .i64 z.1) (fun e => hb8.ne_own hoO8 (by decide) (by rw [e]; rfl))
          have hg9 := gr_set hg8 (p := ⟨gs, x, none⟩) (.inr hgs0) (.int .i64 z.1)
          obtain ⟨y2, z2⟩ := hb9.c 0 rfl
          obtain ⟨y3, z3⟩ := hb9.c 1 rfl
          go_wp2_with fail
          (go_roundw; (case rel => exact ⟨m + 1, by omega, by go_num, by rw [hps2.out, lastO_snoc], by rw [hps2.out, outO_snoc]; exact hoO9, by rw [hck2.out]; exact hb9, hg9⟩); (case measure => simp [intOf]; omega))
        · have hm2 : m = row.length := by omega
          subst hm2
          rw [List.take_length] at hoO hb0 ⊢
          rw [← hps.out] at hoO ⊢
          go_wp2_with fail
          (go_roundw; (case rel => exact ⟨k + 1, by omega, by go_num, rfl, hoO, hg⟩); (case measure => simp [intOf]; omega))
    · have hke : k = plan.length := by omega
      subst hke
      go_wp2_with fail
      refine bodyPost_ret (v := .tuple #[.slice (some ⟨gs, 0, none⟩) j.length j.length, .int .i64 (lastO (pairsK p j plan ch plan.length))]) (by simp [results, Tryd.results61, go_sem]) rfl ⟨gs, rfl, hoO, hg⟩

end Go.Proofs.YtanioobepfllgaaDoor

namespace Go.Proofs.YtanioobepfllgaaDoor
open Go Go.RowKit Go.Bl

def endsL (p : List Prn) (j : List Jb) (plan : List (List Int)) (ch : Int) : List Int := if plannedF p j plan ch = 0 then endsF p j plan ch else []

def endsN (p : List Prn) (j : List Jb) (plan : List (List Int)) (ch : Int) : Int := if plannedF p j plan ch = 0 then endF p j plan ch else 0

theorem endsF_len (p : List Prn) (j : List Jb) (plan : List (List Int)) (ch : Int) : (endsF p j plan ch).length = j.length := outO_len _ _

set_option maxHeartbeats 1000000 in
theorem endsTop_any (A : Option Addr) (c : Nat) (p : List Prn) (B : Option Addr) (d : Nat) (j : List Jb) (C : Option Addr) (e0 : Nat) (plan : List (List Int)) (ch : Int) (w : World) (hp : Sl w 0 A p) (hj : Sl w 0 B j) (hpl : Sl w 0 C plan) :
    Calls Tryd.prog 44 #[.slice A p.length c, .slice B j.length d, .slice C plan.length e0, .int .i64 ch] w fun e w' => ∃ A' c', e = .returned (.tuple #[.slice A' (endsL p j plan ch).length c', .int .i64 (endsN p j plan ch), .int .i64 (plannedF p j plan ch)]) ∧ Sl w' 0 A' (endsL p j plan ch) ∧ w.grownBy w' none := by
  have hPl := planned_any A c p B d j C e0 plan ch w hp hj hpl
  by_cases h0 : plannedF p j plan ch = 0
  · have hE : endsL p j plan ch = endsF p j plan ch := if_pos h0
    have hN : endsN p j plan ch = endF p j plan ch := if_pos h0
    rw [hE, hN]
    have hok := pok_of h0
    rw [h0] at hPl ⊢
    clear h0 hE hN
    have hel := endsF_len p j plan ch
    rw [hel]
    replace hel := hide hel
    replace hok := hide hok
    go_enter Tryd.func44, Tryd.ntmps44
    go_wp2_with fail
    refine hPl.mono ?_
    rintro e w1 ⟨rfl, hg1⟩
    go_wp2_with fail
    refine (endsJ_any _ _ _ _ _ _ _ _ _ _ _ (hp.pure hg1) (hj.pure hg1) (hpl.pure hg1) hok.out).mono ?_
    rintro e w2 ⟨g, rfl, ho, hg2⟩
    go_wp2_with fail
    exact bodyPost_ret (v := .tuple #[.slice (some ⟨g, 0, none⟩) j.length j.length, .int .i64 (endF p j plan ch), .int .i64 0]) (by simp [results, Tryd.results44, go_sem]) rfl ⟨_, _, rfl, ho.sl.mono (Nat.zero_le _), gr_trans hg1 hg2⟩
  · have hE : endsL p j plan ch = [] := if_neg h0
    have hN : endsN p j plan ch = 0 := if_neg h0
    rw [hE, hN]
    clear hE hN
    generalize plannedF p j plan ch = F at *
    have hb : (F != 0) = true := by simp [h0]
    clear h0
    go_enter Tryd.func44, Tryd.ntmps44
    go_wp2_with fail
    refine hPl.mono ?_
    rintro e w1 ⟨rfl, hg1⟩
    go_wp2_with fail
    exact bodyPost_ret (v := .tuple #[.slice none 0 0, .int .i64 0, .int .i64 F]) (by simp [results, Tryd.results44, go_sem]) rfl ⟨_, _, rfl, Sl.nil, hg1⟩

def endV (j : List Jb) (ch : Int) (m : ByteArray) (row : List Int) : List Int := (rowC j ch (0, m) row).map (·.2)

theorem endV_snoc (j : List Jb) (ch : Int) (m : ByteArray) (row : List Int) (i : Int) : endV j ch m (row ++ [i]) = endV j ch m row ++ [(doC (clkC j ch (0, m) row) (jobAt j i) ch).1] := by unfold endV; rw [rowC_snoc, List.map_append]; rfl

theorem rowC_len (j : List Jb) (ch : Int) : ∀ (c : Int × ByteArray) (row : List Int), (rowC j ch c row).length = row.length
  | _, [] => rfl
  | c, i :: r => by simp [rowC, rowC_len j ch _ r]

theorem endV_len (j : List Jb) (ch : Int) (m : ByteArray) (row : List Int) : (endV j ch m row).length = row.length := by simp [endV, rowC_len]

set_option maxHeartbeats 4000000 in
set_option maxRecDepth 100000 in
theorem endsOn_any (ky mat : ByteArray) (B : Option Addr) (d : Nat) (j : List Jb) (C : Option Addr) (e0 : Nat) (row : List Int) (ch : Int) (w : World) (hj : Sl w 0 B j) (hr : Sl w 0 C row) (hok : JOk j ch) (hrow : row.length ≤ 1000) (hin : ∀ i ∈ row, 0 ≤ i ∧ i < (j.length : Int)) :
    Calls Tryd.prog 43 #[.agg #[.string ky, .string mat], .slice B j.length d, .slice C row.length e0, .int .i64 ch] w fun e w' => ∃ A' c', e = .returned (.slice A' row.length c') ∧ Own w' w.heap.size 3 A' c' (endV j ch mat row) ∧ w.grownBy w' none := by
  have hj5 := hok.len
  have hch := hok.chg
  replace hok := hide hok
  replace hin := hide hin
  obtain ⟨i0, hi, hz, hi1, hi2⟩ := info_parts info_int
  go_enter Tryd.func43, Tryd.ntmps43
  go_upto_region 1 with fail
  obtain ⟨w0, hw0⟩ : ∃ x, x = (w).alloc (.cells [.string ky, .string mat].toArray 47) := ⟨_, rfl⟩
  have hg0 : (w).grownBy w0 none := by rw [hw0]; exact gr_alloc (World.grownBy.refl _ _) _
  have hb0 : Box w0 (w).heap.size 47 [.string ky, .string mat] := by rw [hw0]; exact Box.new _ _ _
  have hxs0 := hb0.lt
  rw [← hw0]
  clear hw0
  obtain ⟨x0, hx0⟩ : ∃ x, x = (w).heap.size := ⟨_, rfl⟩
  rw [← hx0] at hb0 hxs0 ⊢
  have hxl0 : (w).heap.size ≤ x0 := by omega
  clear hx0
  go_wp2_with fail
  go_loopw [10, 9, 15] (fun at_ out i wr => ∃ (m : Nat) (A' : Option Addr) (c' : Nat), m ≤ row.length ∧ i = .int .i64 m ∧ at_ = .int .i64 (clkC j ch (0, mat) (row.take m)).1 ∧ out = .slice A' m c' ∧ Own wr w.heap.size 3 A' c' (endV j ch mat (row.take m)) ∧ Box wr x0 47 [.string ky, .string (clkC j ch (0, mat) (row.take m)).2] ∧ w.grownBy wr none) (fun _ _ i _ => row.length - (intOf i).toNat)
  case atStart => exact ⟨0, none, 0, Nat.zero_le _, rfl, rfl, rfl, Own.nil _ _ _, hb0, hg0⟩
  case round =>
    clear hb0 hg0
    obtain ⟨m, A', c', hmk, rfl, rfl, rfl, hoO, hb0, hg⟩ := hrel
    by_cases hml : m < row.length
    · obtain ⟨g2, o2, cx, rfl, _, hb2', rfl, hc⟩ := (hr.pure hg).at_ (by decide) hml
      have r0 : _ := hc 0 _ rfl
      rw [show Enc.sz Int = 1 from rfl, Nat.mul_one, Nat.add_zero] at r0
      clear hc
      have hri := hin.out _ (List.getElem_mem hml)
      obtain ⟨x, hx⟩ := Int.eq_ofNat_of_zero_le hri.1
      have hxl : x < j.length := by omega
      have htk := take_snoc hml
      have hps2 : Hid (endV j ch mat (row.take (m + 1)) = endV j ch mat (row.take m) ++ [(doC (clkC j ch (0, mat) (row.take m)) j[x] ch).1]) := by rw [Hid, htk, endV_snoc, hx, jobAt_nat hxl]
      have hck2 : Hid (clkC j ch (0, mat) (row.take (m + 1)) = doC (clkC j ch (0, mat) (row.take m)) j[x] ch) := by rw [Hid, htk, clkC_snoc, hx, jobAt_nat hxl]
      have hbd := clkC_bd hok.out (row.take m) (fun i hi => hin.out i (List.mem_of_mem_take hi)) (0, mat) (N := 0) (by simp)
      rw [List.length_take, Nat.min_eq_left hmk] at hbd
      obtain ⟨gj, oj, cx, rfl, _, hbj, rfl, hc⟩ := (hj.pure hg).at_ (by decide) hxl
      have hjb := hok.out.bd _ (List.getElem_mem hxl)
      rw [hx] at r0
      have j0 : wr.cell? ⟨gj, oj + x * 4, none⟩ = some (.string j[x].key) := hc 0 _ rfl
      have j1 : wr.cell? ⟨gj, oj + x * 4 + 1, none⟩ = some (.string j[x].mat) := hc 1 _ rfl
      have j2 : wr.cell? ⟨gj, oj + x * 4 + 2, none⟩ = some (.int .i64 j[x].min) := hc 2 _ rfl
      have j3 : wr.cell? ⟨gj, oj + x * 4 + 3, none⟩ = some (.int .i64 j[x].due) := hc 3 _ rfl
      clear htk hri hx hc
      have hlq : Hid ((endV j ch mat (row.take m)).length = m) := by rw [Hid, endV_len, List.length_take, Nat.min_eq_left hmk]
      generalize hQ : endV j ch mat (row.take m) = Q at *
      generalize hcl : clkC j ch (0, mat) (row.take m) = cl at *
      clear hQ hcl
      obtain ⟨cle, clm⟩ := cl
      have xb := hbd.1
      have xb2 := hbd.2
      simp only at xb xb2
      generalize hY : j[x] = Y at *
      have hda : doC (cle, clm) Y ch = (cle + (if clm = Y.mat then 0 else ch) + Y.min, Y.mat) := rfl
      obtain ⟨t, ht, ht2⟩ : ∃ t : Int, Hid (t = if (!(Y.mat.toList == clm.toList)) then 1 else 0) ∧ doC (cle, clm) Y ch = (cle + (Y.min + ch * t), Y.mat) := by
        by_cases e : clm = Y.mat
        · refine ⟨0, ?_, ?_⟩
          · subst e; simp [Hid]
          · rw [hda, if_pos e]; simp
        · refine ⟨1, ?_, ?_⟩
          · have : Y.mat.toList ≠ clm.toList := fun e1 => e (toList_inj e1).symm
            simp [Hid, this]
          · rw [hda, if_neg e]; simp; omega
      have ht01 : t = 0 ∨ t = 1 := by rw [ht.out]; split <;> simp
      have htb : 0 ≤ ch * t ∧ ch * t ≤ 100000 := by rcases ht01 with rfl | rfl <;> simp <;> omega
      rw [ht2] at hck2 hps2
      have hT := hide (truth_any (!(Y.mat.toList == clm.toList)))
      rw [← ht.out] at hT
      clear hda ht2
      obtain ⟨bb0, _⟩ := hb0.c 0 rfl
      obtain ⟨bb1, _⟩ := hb0.c 1 rfl
      go_upto_region 6 with fail
      refine wp_region_tree (fun wx => wr.grownBy wx none) [2, 2, 2, 2, 2, 1, 2, 2, 2, 2, 2, 1, 2, 1, 2, 0, 2, 2, 2, 2] (.bl 0 (.bl 1 (.bl 2 (.bl 3 (.bl 4 (.bl 5 (.bl 6 (.bl 7 (.bl 8 (.bl 9 (.bl 10 (.bl 11 (.bl 12 (.bl 13 (.bl 14 (.ef 15 (.bl 16 (.bl 17 (.bl 18 (.bl 19 .done)))))))))))))))))))) (by kernel_rfl) (by kernel_rfl) (gr_drew (World.grownBy.refl _ _)) ?_
      obtain ⟨W1, hW1⟩ : ∃ x, x = (wr).drew := ⟨_, rfl⟩
      rw [← hW1]
      have hgW1 : (wr).grownBy W1 none := by rw [hW1]; exact gr_drew (World.grownBy.refl _ _)
      clear hW1
      refine tree_p rfl rfl rfl rfl _ rfl (by simp) (fun K hK => ?_)
      apply Exists.intro
      refine ⟨fun wq K' hK' => ?_, ?_⟩
      · go_wp2_with fail
        exact hK'
      go_simp
      refine hK _ ?_
      clear hK K
      refine tree_p rfl rfl rfl rfl _ rfl (by simp) (fun K hK => ?_)
      apply Exists.intro
      refine ⟨fun wq K' hK' => ?_, ?_⟩
      · go_wp2_with fail
        exact hK'
      go_simp
      refine hK _ ?_
      clear hK K
      refine tree_p rfl rfl rfl rfl _ rfl (by simp) (fun K hK => ?_)
      apply Exists.intro
      refine ⟨fun wq K' hK' => ?_, ?_⟩
      · go_wp2_with fail
        exact hK'
      go_simp
      refine hK _ ?_
      clear hK K
      refine tree_p rfl rfl rfl rfl _ rfl (by simp) (fun K hK => ?_)
      apply Exists.intro
      refine ⟨fun wq K' hK' => ?_, ?_⟩
      · go_wp2_with fail
        exact hK'
      go_simp
      refine hK _ ?_
      clear hK K
      refine tree_p rfl rfl rfl rfl _ rfl (by simp) (fun K hK => ?_)
      apply Exists.intro
      refine ⟨fun wq K' hK' => ?_, ?_⟩
      · go_wp2_with fail
        exact hK'
      go_simp
      refine hK _ ?_
      clear hK K
      refine tree_b rfl rfl rfl rfl _ rfl (by simp) (fun K hK => ?_)
      apply Exists.intro
      refine ⟨fun wq hq K' hK' => ?_, ?_⟩
      · have jj1 := hq.k j1
        have jj2 := hq.k j2
        have b1 := hq.k bb1
        go_wp2_with fail
        exact hK'
      go_simp
      refine hK _ ?_
      clear hK K
      refine tree_p rfl rfl rfl rfl _ rfl (by simp) (fun K hK => ?_)
      apply Exists.intro
      refine ⟨fun wq K' hK' => ?_, ?_⟩
      · go_wp2_with fail
        exact hK'
      go_simp
      refine hK _ ?_
      clear hK K
      refine tree_p rfl rfl rfl rfl _ rfl (by simp) (fun K hK => ?_)
      apply Exists.intro
      refine ⟨fun wq K' hK' => ?_, ?_⟩
      · go_wp2_with fail
        exact hK'
      go_simp
      refine hK _ ?_
      clear hK K
      refine tree_p rfl rfl rfl rfl _ rfl (by simp) (fun K hK => ?_)
      apply Exists.intro
      refine ⟨fun wq K' hK' => ?_, ?_⟩
      · go_wp2_with fail
        exact hK'
      go_simp
      refine hK _ ?_
      clear hK K
      refine tree_p rfl rfl rfl rfl _ rfl (by simp) (fun K hK => ?_)
      apply Exists.intro
      refine ⟨fun wq K' hK' => ?_, ?_⟩
      · go_wp2_with fail
        exact hK'
      go_simp
      refine hK _ ?_
      clear hK K
      refine tree_p rfl rfl rfl rfl _ rfl (by simp) (fun K hK => ?_)
      apply Exists.intro
      refine ⟨fun wq K' hK' => ?_, ?_⟩
      · go_wp2_with fail
        exact hK'
      go_simp
      refine hK _ ?_
      clear hK K
      refine tree_b rfl rfl rfl rfl _ rfl (by simp) (fun K hK => ?_)
      apply Exists.intro
      refine ⟨fun wq hq K' hK' => ?_, ?_⟩
      · have jj1 := hq.k j1
        have jj2 := hq.k j2
        have b1 := hq.k bb1
        go_wp2_with fail
        exact hK'
      go_simp
      refine hK _ ?_
      clear hK K
      refine tree_p rfl rfl rfl rfl _ rfl (by simp) (fun K hK => ?_)
      apply Exists.intro
      refine ⟨fun wq K' hK' => ?_, ?_⟩
      · go_wp2_with fail
        exact hK'
      go_simp
      refine hK _ ?_
      clear hK K
      refine tree_b rfl rfl rfl rfl _ rfl (by simp) (fun K hK => ?_)
      apply Exists.intro
      refine ⟨fun wq hq K' hK' => ?_, ?_⟩
      · have jj1 := hq.k j1
        have jj2 := hq.k j2
        have b1 := hq.k bb1
        go_wp2_with fail
        exact hK'
      go_simp
      refine hK _ ?_
      clear hK K
      refine tree_p rfl rfl rfl rfl _ rfl (by simp) (fun K hK => ?_)
      apply Exists.intro
      refine ⟨fun wq K' hK' => ?_, ?_⟩
      · go_wp2_with fail
        exact hK'
      go_simp
      refine hK _ ?_
      clear hK K
      refine tree_e rfl rfl (fun K hK => ?_)
      go_wp2_with fail
      refine (hT.out _).mono ?_
      rintro e _ ⟨rfl, rfl⟩
      go_wp2_with fail
      try go_simp
      refine hK _ _ (hgW1) ?_
      clear hK K
      refine tree_p rfl rfl rfl rfl _ rfl (by simp) (fun K hK => ?_)
      apply Exists.intro
      refine ⟨fun wq K' hK' => ?_, ?_⟩
      · go_wp2_with fail
        exact hK'
      go_simp
      refine hK _ ?_
      clear hK K
      refine tree_p rfl rfl rfl rfl _ rfl (by simp) (fun K hK => ?_)
      apply Exists.intro
      refine ⟨fun wq K' hK' => ?_, ?_⟩
      · go_wp2_with fail
        exact hK'
      go_simp
      refine hK _ ?_
      clear hK K
      refine tree_p rfl rfl rfl rfl _ rfl (by simp) (fun K hK => ?_)
      apply Exists.intro
      refine ⟨fun wq K' hK' => ?_, ?_⟩
      · go_wp2_with fail
        exact hK'
      go_simp
      refine hK _ ?_
      clear hK K
      refine tree_p rfl rfl rfl rfl _ rfl (by simp) (fun K hK => ?_)
      apply Exists.intro
      refine ⟨fun wq K' hK' => ?_, ?_⟩
      · go_wp2_with fail
        exact hK'
      go_simp
      refine hK _ ?_
      clear hK K
      refine tree_done ?_
      have hb1 := hb0.pure hgW1
      have hoO1 := hoO.pure hgW1
      have hg1 := gr_trans hg hgW1
      obtain ⟨y0, z0⟩ := hb1.c 0 rfl
      obtain ⟨y1, z1⟩ := hb1.c 1 rfl
      have jj1 := hgW1.k j1
      have hQl := hlq.out
      have hx0 : w.heap.size ≤ x0 := hxl0
      have hne := hb1.ne_own hoO1 (by decide)
      have hb2 := hb1.set_ 1 (.string Y.mat) (by simp)
      have hoO2 := hoO1.set_other (g' := x0) (i := 1) (.string Y.mat) hne
      have hg2 := gr_set hg1 (p := ⟨x0, 1, none⟩) (.inr hx0) (.string Y.mat)
      clear hb0 hoO hg hgW1 hb1 hoO1 hg1 j0 j1 j2 j3 hY r0 bb0 bb1
      simp only [List.set_cons_succ, List.set_cons_zero] at hb2
      go_upto_region 8 with fail
      obtain ⟨w7, hw7⟩ : ∃ x, x = W1.setCell ⟨x0, 1, none⟩ (.string Y.mat) := ⟨_, rfl⟩
      rw [← hw7] at hb2 hoO2 hg2 ⊢
      clear hw7 y0 y1 z0 z1 hne jj1 hT ht ht01
      have hgs := hg2.size
      go_wp2_with (at_builtin; obtain ⟨i0, hi, hz, h1, h2⟩ := info_parts info_int; refine wpList_pushAt (α := Int) _ rfl (.tmp 44) (.tmp 46) _ rfl w.heap.size 3 i0 _ 8 Tryd.underlying22 hi hz h1 h2 rfl _ _ _ Q rfl ?c1 (by exact (hoO2.pure (gr_alloc (World.grownBy.refl _ _) _))) 0 ⟨_, 0, none⟩ 1 1 [(cle + (Y.min + ch * t))] rfl rfl (by exact sl_int1 _ _ _ _ (by first | rfl | simp)) ?c2 ?c3 ?c4 ?_)
      case c1 => simp [hQl]
      case c2 => first | omega | (simp; omega)
      case c3 => first | (simp [maxLen]; omega) | (unfold maxLen; omega)
      case c4 => first | omega | (simp; omega)
      intro A5 c5 w5 hown5 hG5
      have hq := gr_alloc (World.grownBy.refl w7 none) (.cells #[.int .i64 (cle + (Y.min + ch * t))] 3)
      have hoq := hoO2.pure hq
      have hb5 := (hb2.pure hq).gr hG5.1 ((hb2.pure hq).ne_own hoq (by decide))
      have hg5 : w.grownBy w5 none := gr_row (gr_trans hg2 hq) hG5.1 (fun x e => (hoq.blk_lt e).1)
      clear hb2 hq hoq hoO2
      go_wp2
      (go_roundw; (case rel => exact ⟨m + 1, A5, c5, by omega, by go_num, by rw [hck2.out], by simp [hQl], by rw [hps2.out]; exact hown5, by rw [hck2.out]; exact hb5, hg5⟩); (case measure => simp [intOf]; omega))
    · have hm2 : m = row.length := by omega
      subst hm2
      rw [List.take_length] at hoO
      go_wp2_with fail
      go_ret
      exact ⟨A', c', rfl, hoO, hg⟩

end Go.Proofs.YtanioobepfllgaaDoor

namespace Go.Proofs.YtanioobepfllgaaDoor
open Go Go.RowKit Go.Bl

theorem rowC_fst (j : List Jb) (ch : Int) : ∀ (c : Int × ByteArray) (row : List Int), (rowC j ch c row).map (·.1) = row
  | _, [] => rfl
  | c, i :: r => by simp [rowC, rowC_fst j ch _ r]

theorem rowC_get {j : List Jb} {ch : Int} {mat : ByteArray} {row : List Int} {m : Nat} (hm : m < row.length) : (rowC j ch (0, mat) row)[m]'(by rw [rowC_len]; exact hm) = (row[m], (endV j ch mat row)[m]'(by rw [endV_len]; exact hm)) := by
  have h1 := rowC_fst j ch (0, mat) row
  have e1 : row[m] = ((rowC j ch (0, mat) row)[m]'(by rw [rowC_len]; exact hm)).1 := by
    have : row[m]? = ((rowC j ch (0, mat) row).map (·.1))[m]? := by rw [h1]
    rw [List.getElem?_eq_getElem hm, List.getElem?_map, List.getElem?_eq_getElem (by rw [rowC_len]; exact hm)] at this
    simpa using this
  rw [e1]
  unfold endV
  rw [List.getElem_map]

set_option maxHeartbeats 4000000 in
set_option maxRecDepth 100000 in
theorem endsBy_any (A : Option Addr) (c : Nat) (p : List Prn) (B : Option Addr) (d : Nat) (j : List Jb) (C : Option Addr) (e0 : Nat) (plan : List (List Int)) (ch : Int) (w : World) (hp : Sl w 0 A p) (hj : Sl w 0 B j) (hpl : Sl w 0 C plan) (hok : POk p j plan ch) :
    Calls Tryd.prog 33 #[.slice A p.length c, .slice B j.length d, .slice C plan.length e0, .int .i64 ch] w fun e w' => ∃ g, e = .returned (.tuple #[.slice (some ⟨g, 0, none⟩) j.length j.length, .int .i64 (endF p j plan ch)]) ∧ Own w' w.heap.size 3 (some ⟨g, 0, none⟩) j.length (endsF p j plan ch) ∧ w.grownBy w' none := by
  have hj5 := hok.len
  have hch := hok.chg
  have hrw := hok.row
  have hpm := hpl.1
  unfold maxLen at hpm
  obtain ⟨i0, hi, hz, hi1, hi2⟩ := info_parts info_int
  obtain ⟨w2, hrun, hoO, hg2⟩ := run_makeOwn (P := Tryd.prog) w 22 3 i0 _ (0 : Int) Tryd.underlying22 hi hz hi1 rfl rfl .i64 .i64 j.length (by rw [hi2]; omega) (by simp [maxLen]; omega)
  clear hi hz hi1 hi2 i0
  obtain ⟨gs, hgs⟩ : ∃ g, g = w.heap.size := ⟨_, rfl⟩
  rw [← hgs] at hrun hoO
  have hgs0 : w.heap.size ≤ gs := by omega
  have hgsl : gs < w2.heap.size := (hoO.blk_lt (g := gs) rfl).2
  clear hgs
  replace hoO := hoO.lower hgs0
  replace hok := hide hok
  go_enter Tryd.func33, Tryd.ntmps33
  go_wp2_with fail
  clear hrun
  go_loopw [11, 21] (fun l i wr => ∃ k : Nat, k ≤ plan.length ∧ i = .int .i64 k ∧ l = .int .i64 (lastO (pairsK p j plan ch k)) ∧ Own wr w.heap.size 3 (some ⟨gs, 0, none⟩) j.length (outO j.length (pairsK p j plan ch k)) ∧ w.grownBy wr none) (fun _ i _ => plan.length - (intOf i).toNat)
  case atStart => exact ⟨0, Nat.zero_le _, rfl, rfl, hoO, hg2⟩
  case round =>
    clear hoO hg2
    obtain ⟨k, hk, rfl, rfl, hoO, hg⟩ := hrel
    by_cases hlt : k < plan.length
    · obtain ⟨g, o, Bk, dk, rfl, hb1, c0, hsl⟩ := sl_inner hpl hlt
      replace c0 := hg.k c0
      have hpk : k < p.length := by omega
      clear hrw
      obtain ⟨ga, oa, cx, rfl, _, hb2, rfl, hc⟩ := (hp.pure hg).at_ (by decide) hpk
      have d0 : wr.cell? ⟨ga, oa + k * 2, none⟩ = some (.string p[k].key) := hc 0 _ rfl
      have d1 : wr.cell? ⟨ga, oa + k * 2 + 1, none⟩ = some (.string p[k].mat) := hc 1 _ rfl
      clear hc
      have hps : pairsK p j plan ch (k + 1) = pairsK p j plan ch k ++ rowC j ch (0, p[k].mat) plan[k] := by rw [pairsK_succ]; unfold rowP; simp [List.getD, hlt, hpk]
      replace hps := hide hps
      have hin := hide (fun i hi => hok.out.ix i (row_in hlt i hi))
      have hln := hide (Nat.le_trans (row_len hlt) hok.out.few)
      obtain ⟨row, hrow⟩ : ∃ x, x = plan[k] := ⟨_, rfl⟩
      rw [← hrow] at c0 hsl hps hin hln
      clear hrow
      have hrm := hln.out
      generalize hPk : pairsK p j plan ch k = Pk at *
      clear hPk
      generalize hmt : p[k].mat = mat at *
      generalize hkt : p[k].key = ky at *
      clear hmt hkt
      go_wp2_with fail
      refine (endsOn_any ky mat _ _ _ _ _ _ _ _ (hj.pure hg) (hsl.pure hg) hok.out.toJOk (by omega) hin.out).mono ?_
      rintro e w3 ⟨A3, c3, rfl, hoE, hg3⟩
      have hgsr := (hoO.blk_lt (g := gs) rfl).2
      replace hoE := hoE.sl
      replace hoO := hoO.pure hg3
      have hg' := gr_trans hg hg3
      have hgs3 : gs < w.heap.size + 1 → True := fun _ => trivial
      clear hgs3
      have hgw := hg
      clear hg d0 d1 c0
      rename World => wq
      go_wp2_with fail
      go_loopw [11, 35] (fun l i wr => ∃ m : Nat, m ≤ row.length ∧ i = .int .i64 m ∧ l = .int .i64 (lastO (Pk ++ (rowC j ch (0, mat) row).take m)) ∧ Own wr w.heap.size 3 (some ⟨gs, 0, none⟩) j.length (outO j.length (Pk ++ (rowC j ch (0, mat) row).take m)) ∧ wq.grownBy wr (some gs) ∧ w.grownBy wr none) (fun _ i _ => row.length - (intOf i).toNat)
      case atStart => exact ⟨0, Nat.zero_le _, rfl, by simp, by simpa using hoO, World.grownBy.refl _ _, hg'⟩
      case round =>
        clear hoO hg'
        obtain ⟨m, hmk, rfl, rfl, hoO, hgq, hg⟩ := hrel
        by_cases hml : m < row.length
        · obtain ⟨g2, o2, cx, rfl, _, hb2', rfl, hc⟩ := (hsl.pure hg).at_ (by decide) hml
          have r0 : _ := hc 0 _ rfl
          rw [show Enc.sz Int = 1 from rfl, Nat.mul_one, Nat.add_zero] at r0
          clear hc
          have hml2 : m < (endV j ch mat row).length := by rw [endV_len]; exact hml
          obtain ⟨g3, o3, cx, rfl, _, hb3', rfl, hc⟩ := (hoE.gr hgq (fun x e => by injection e; omega)).at_ (by decide) hml2
          have r1 : _ := hc 0 _ rfl
          rw [show Enc.sz Int = 1 from rfl, Nat.mul_one, Nat.add_zero] at r1
          clear hc
          have hri := hin.out _ (List.getElem_mem hml)
          obtain ⟨x, hx⟩ := Int.eq_ofNat_of_zero_le hri.1
          have hxl : x < j.length := by omega
          have htk : Hid (Pk ++ (rowC j ch (0, mat) row).take (m + 1) = (Pk ++ (rowC j ch (0, mat) row).take m) ++ [((x : Int), (endV j ch mat row)[m])]) := by
            rw [Hid, take_snoc (by rw [rowC_len]; exact hml), rowC_get hml, hx, List.append_assoc]
          rw [hx] at r0
          generalize hQ : Pk ++ (rowC j ch (0, mat) row).take m = Q at *
          generalize hz : (endV j ch mat row)[m] = z at *
          clear hQ hz hri hx
          have hlO : x < (outO j.length Q).length := by rw [outO_len]; exact hxl
          have o0 := hoO.cell_int hlO
          have of := hoO.frozen x
          have hoO2 := hoO.set_int x z
          have hg2 := gr_set hg (p := ⟨gs, x, none⟩) (.inr hgs0) (.int .i64 z)
          have hgq2 := gr_set hgq (p := ⟨gs, x, none⟩) (.inl rfl) (.int .i64 z)
          go_wp2_with fail
          (go_roundw; (case rel => exact ⟨m + 1, by omega, by go_num, by rw [htk.out, lastO_snoc], by rw [htk.out, outO_snoc]; exact hoO2, hgq2, hg2⟩); (case measure => simp [intOf]; omega))
        · have hm2 : m = row.length := by omega
          subst hm2
          rw [List.take_of_length_le (by rw [rowC_len]; omega), ← hps.out] at hoO ⊢
          go_wp2_with fail
          (go_roundw; (case rel => exact ⟨k + 1, by omega, by go_num, rfl, hoO, hg⟩); (case measure => simp [intOf]; omega))
    · have hke : k = plan.length := by omega
      subst hke
      go_wp2_with fail
      refine bodyPost_ret (v := .tuple #[.slice (some ⟨gs, 0, none⟩) j.length j.length, .int .i64 (lastO (pairsK p j plan ch plan.length))]) (by simp [results, Tryd.results33, go_sem]) rfl ⟨gs, rfl, hoO, hg⟩

end Go.Proofs.YtanioobepfllgaaDoor

namespace Go.Proofs.YtanioobepfllgaaDoor
open Go Go.RowKit Go.Bl

theorem info_str : (Tryd.prog.info? 9).map (fun i => (i.zero, i.size, i.bytes)) = some (some (.string ByteArray.empty), 1, 16) := by kernel_rfl

def lateS (E : List Int) (j : List Jb) : Nat → Int
  | 0 => 0
  | k + 1 => if E.getD k 0 > (j.getD k default).due then lateS E j k + (E.getD k 0 - (j.getD k default).due) else lateS E j k

def lateL (E : List Int) (j : List Jb) : Nat → List ByteArray
  | 0 => []
  | k + 1 => if E.getD k 0 > (j.getD k default).due then lateL E j k ++ [(j.getD k default).key] else lateL E j k

theorem lateS_at {E : List Int} {j : List Jb} {k : Nat} (h1 : k < E.length) (h2 : k < j.length) : lateS E j (k + 1) = if E[k] > j[k].due then lateS E j k + (E[k] - j[k].due) else lateS E j k := by
  simp only [lateS, List.getD_eq_getElem?_getD, List.getElem?_eq_getElem h1, List.getElem?_eq_getElem h2, Option.getD_some]

theorem lateL_at {E : List Int} {j : List Jb} {k : Nat} (h1 : k < E.length) (h2 : k < j.length) : lateL E j (k + 1) = if E[k] > j[k].due then lateL E j k ++ [j[k].key] else lateL E j k := by
  simp only [lateL, List.getD_eq_getElem?_getD, List.getElem?_eq_getElem h1, List.getElem?_eq_getElem h2, Option.getD_some]

theorem lateL_len (E : List Int) (j : List Jb) : ∀ k, (lateL E j k).length ≤ k
  | 0 => by simp [lateL]
  | k + 1 => by
    have := lateL_len E j k
    unfold lateL; split <;> simp <;> omega

theorem lateS_bd {E : List Int} {j : List Jb} (hE : ∀ e ∈ E, 0 ≤ e ∧ e ≤ 100000000) (hl : E.length = j.length) (hj : ∀ x ∈ j, 0 ≤ x.due) : ∀ k, k ≤ j.length → 0 ≤ lateS E j k ∧ lateS E j k ≤ 100000000 * k
  | 0, _ => by simp [lateS]
  | k + 1, hk => by
    have ih := lateS_bd hE hl hj k (by omega)
    have h1 : k < E.length := by omega
    have h2 : k < j.length := by omega
    rw [lateS_at h1 h2]
    have b1 := hE _ (List.getElem_mem h1)
    have b2 := hj _ (List.getElem_mem h2)
    split <;> (constructor <;> push_cast <;> omega)

theorem rowC_bd {j : List Jb} {ch : Int} (h : JOk j ch) : ∀ (row : List Int) (_ : ∀ i ∈ row, 0 ≤ i ∧ i < (j.length : Int)) (c : Int × ByteArray) {N : Int} (_ : 0 ≤ c.1 ∧ c.1 ≤ N), ∀ q ∈ rowC j ch c row, 0 ≤ q.2 ∧ q.2 ≤ N + 200000 * row.length
  | [], _, c, N, hc => by simp [rowC]
  | i :: r, hr, c, N, hc => by
    have h1 := doC_bd h (hr i (by simp)) hc
    have ih := rowC_bd h r (fun k hk => hr k (by simp [hk])) (doC c (jobAt j i) ch) h1
    intro q hq
    rw [rowC, List.mem_cons] at hq
    rw [List.length_cons]
    rcases hq with rfl | hq
    · constructor
      · exact h1.1
      · have := h1.2; push_cast; omega
    · have := ih q hq
      constructor
      · exact this.1
      · have := this.2; push_cast; omega

theorem outO_bd {n : Nat} {N : Int} (hN : 0 ≤ N) : ∀ (L : List (Int × Int)) (_ : ∀ q ∈ L, 0 ≤ q.2 ∧ q.2 ≤ N), ∀ e ∈ outO n L, 0 ≤ e ∧ e ≤ N := by
  have : ∀ (L : List (Int × Int)) (o : List Int), (∀ q ∈ L, 0 ≤ q.2 ∧ q.2 ≤ N) → (∀ e ∈ o, 0 ≤ e ∧ e ≤ N) → ∀ e ∈ L.foldl (fun o q => o.set q.1.toNat q.2) o, 0 ≤ e ∧ e ≤ N := by
    intro L
    induction L with
    | nil => intro o _ h; exact h
    | cons q L ih =>
      intro o hL ho
      rw [List.foldl_cons]
      refine ih _ (fun q hq => hL q (by simp [hq])) fun e he => ?_
      rcases List.mem_or_eq_of_mem_set he with h | h
      · exact ho e h
      · rw [h]; exact hL q (by simp)
  intro L hL
  exact this L _ hL (fun e he => by have := List.eq_of_mem_replicate he; omega)

theorem pairsK_bd {p : List Prn} {j : List Jb} {plan : List (List Int)} {ch : Int} (h : POk p j plan ch) (k : Nat) : ∀ q ∈ pairsK p j plan ch k, 0 ≤ q.2 ∧ q.2 ≤ 100000000 := by
  intro q hq
  unfold pairsK at hq
  rw [List.mem_flatten] at hq
  obtain ⟨l, hl, hq⟩ := hq
  obtain ⟨i, _, rfl⟩ := List.mem_map.1 hl
  unfold rowP at hq
  by_cases hi : i < plan.length
  · have e : plan.getD i [] = plan[i] := by simp [List.getD, hi]
    rw [e] at hq
    have := rowC_bd h.toJOk plan[i] (fun x hx => h.ix x (row_in hi x hx)) (0, (p.getD i default).mat) (N := 0) (by simp) q hq
    have h2 := Nat.le_trans (row_len hi) h.few
    omega
  · have e : plan.getD i [] = [] := by simp [List.getD, hi]
    rw [e] at hq
    simp [rowC] at hq

theorem endsF_bd {p : List Prn} {j : List Jb} {plan : List (List Int)} {ch : Int} (h : POk p j plan ch) : ∀ e ∈ endsF p j plan ch, 0 ≤ e ∧ e ≤ 100000000 := outO_bd (by decide) _ (pairsK_bd h _)

def lateT (p : List Prn) (j : List Jb) (plan : List (List Int)) (ch : Int) : Int := if plannedF p j plan ch = 0 then lateS (endsF p j plan ch) j j.length else 0

def lateM (p : List Prn) (j : List Jb) (plan : List (List Int)) (ch : Int) : List ByteArray := if plannedF p j plan ch = 0 then lateL (endsF p j plan ch) j j.length else []

set_option maxHeartbeats 4000000 in
set_option maxRecDepth 100000 in
theorem lateBy_any (A : Option Addr) (c : Nat) (p : List Prn) (B : Option Addr) (d : Nat) (j : List Jb) (C : Option Addr) (e0 : Nat) (plan : List (List Int)) (ch : Int) (w : World) (hp : Sl w 0 A p) (hj : Sl w 0 B j) (hpl : Sl w 0 C plan) (hok : POk p j plan ch) :
    Calls Tryd.prog 48 #[.slice A p.length c, .slice B j.length d, .slice C plan.length e0, .int .i64 ch] w fun e w' => ∃ A' c', e = .returned (.tuple #[.int .i64 (lateS (endsF p j plan ch) j j.length), .slice A' (lateL (endsF p j plan ch) j j.length).length c']) ∧ Sl w' 0 A' (lateL (endsF p j plan ch) j j.length) ∧ w.grownBy w' none := by
  have hEl := hide (endsF_len p j plan ch)
  have hEb := hide (endsF_bd hok)
  have hj5 := hok.len
  have hch := hok.chg
  replace hok := hide hok
  go_enter Tryd.func48, Tryd.ntmps48
  go_wp2_with fail
  refine (endsBy_any _ _ _ _ _ _ _ _ _ _ _ hp hj hpl hok.out).mono ?_
  rintro e w2 ⟨g, rfl, ho, hgw2⟩
  have hE0 := ho.sl.mono (Nat.zero_le _)
  generalize hEE : endsF p j plan ch = E at *
  replace hEE := hide hEE
  clear ho
  go_wp2_with fail
  have hE : ∀ e ∈ E, 0 ≤ e ∧ e ≤ 100000000 := hEb.out
  have hbd := hide (fun k hk => lateS_bd hE hEl.out (fun x hx => (hok.out.bd x hx).2.2.1) k hk)
  clear hE
  go_loopw [12, 13, 26] (fun s l i wr => ∃ (k : Nat) (A' : Option Addr) (c' : Nat), k ≤ j.length ∧ i = .int .i64 k ∧ s = .int .i64 (lateS E j k) ∧ l = .slice A' (lateL E j k).length c' ∧ Own wr w2.heap.size 9 A' c' (lateL E j k) ∧ w2.grownBy wr none) (fun _ _ i _ => j.length - (intOf i).toNat)
  case atStart => exact ⟨0, none, 0, Nat.zero_le _, rfl, rfl, rfl, Own.nil _ _ _, World.grownBy.refl _ _⟩
  case round =>
    obtain ⟨k, A', c', hk, rfl, rfl, rfl, hown, hg⟩ := hrel
    have hgw := gr_trans hgw2 hg
    by_cases hlt : k < j.length
    · have hltE : k < E.length := by rw [hEl.out]; exact hlt
      obtain ⟨gj, oj, cx, rfl, _, hbj, rfl, hc⟩ := (hj.pure hgw).at_ (by decide) hlt
      have j0 : wr.cell? ⟨gj, oj + k * 4, none⟩ = some (.string j[k].key) := hc 0 _ rfl
      have j1 : wr.cell? ⟨gj, oj + k * 4 + 1, none⟩ = some (.string j[k].mat) := hc 1 _ rfl
      have j2 : wr.cell? ⟨gj, oj + k * 4 + 2, none⟩ = some (.int .i64 j[k].min) := hc 2 _ rfl
      have j3 : wr.cell? ⟨gj, oj + k * 4 + 3, none⟩ = some (.int .i64 j[k].due) := hc 3 _ rfl
      clear hc
      obtain ⟨g3, o3, cx, e3, _, hb3', rfl, hc⟩ := (hE0.pure hg).at_ (by decide) hltE
      injection e3 with e3
      injection e3 with e3 e4
      subst e3
      subst e4
      have r1 : _ := hc 0 _ rfl
      rw [show Enc.sz Int = 1 from rfl, Nat.mul_one, Nat.add_zero, Nat.zero_add] at r1
      clear hc
      have hS := lateS_at hltE hlt
      have hL := lateL_at hltE hlt
      have hSb := hbd.out k hk
      have hll := lateL_len E j k
      have hEk := hEb.out _ (List.getElem_mem hltE)
      have hdk := hok.out.bd _ (List.getElem_mem hlt)
      generalize lateS E j k = S at *
      generalize lateL E j k = L at *
      generalize E[k] = e at *
      generalize j[k] = Y at *
      have hgm := hg.size
      go_wp2_with fail
      obtain ⟨w9, hw9⟩ : ∃ x, x = (wr).alloc (.cells [.string Y.key, .string Y.mat, .int .i64 Y.min, .int .i64 Y.due].toArray 58) := ⟨_, rfl⟩
      have hg9 : (wr).grownBy w9 none := by rw [hw9]; exact gr_alloc (World.grownBy.refl _ _) _
      have hb9 : Box w9 (wr).heap.size 58 [.string Y.key, .string Y.mat, .int .i64 Y.min, .int .i64 Y.due] := by rw [hw9]; exact Box.new _ _ _
      have hxs9 := hb9.lt
      rw [← hw9]
      clear hw9
      obtain ⟨x9, hx9⟩ : ∃ x, x = (wr).heap.size := ⟨_, rfl⟩
      rw [← hx9] at hb9 hxs9 ⊢
      have hxl9 : (wr).heap.size ≤ x9 := by omega
      clear hx9
      obtain ⟨y0, _⟩ := hb9.c 0 rfl
      obtain ⟨y3, _⟩ := hb9.c 3 rfl
      replace r1 := hg9.k r1
      replace hg := gr_trans hg hg9
      replace hown := hown.pure hg9
      clear hgw j0 j1 j2 j3 hg9 hb9
      by_cases hgt : e > Y.due
      · have hb : decide (e > Y.due) = true := by simp [hgt]
        rw [if_pos hgt] at hS hL
        replace hS := hide hS
        replace hL := hide hL
        clear hgt
        go_quiet (fail)
        go_wp2_with fail
        go_quiet (fail)
        go_wp2_with (at_builtin; obtain ⟨i0, hi, hz, hi1, hi2⟩ := info_parts info_str; refine wpList_push (α := ByteArray) _ rfl (.tmp 47) (.tmp 50) _ rfl w2.heap.size 9 i0 _ 16 Tryd.underlying51 hi hz hi1 hi2 rfl _ _ _ L rfl ?c1 (by exact hown.pure (by repeat (first | exact World.grownBy.refl _ _ | assumption | refine gr_alloc ?_ _ | (apply gr_tail; assumption) | refine gr_drewN ?_ _ | refine gr_drew ?_))) 0 ⟨_, 0, none⟩ 1 1 [Y.key] rfl rfl (by exact sl_oneAt _ 0 _ _ _ _ (by first | rfl | simp) (Nat.zero_le _) rfl) ?c2 ?c3 ?c4 ?_)
        case c1 => rfl
        case c2 => first | omega | (simp; omega)
        case c3 => first | (simp [maxLen]; omega) | (unfold maxLen; omega)
        case c4 => first | omega | (simp; omega)
        intro A5 c5 w5 hown5 hup5
        have hg5 : w2.grownBy w5 none := hup5.gr (Nat.le_refl _) (by first | exact (by repeat (first | exact World.grownBy.refl _ _ | assumption | refine gr_alloc ?_ _ | (apply gr_tail; assumption) | refine gr_drewN ?_ _ | refine gr_drew ?_)) | exact gr_alloc (by repeat (first | exact World.grownBy.refl _ _ | assumption | refine gr_alloc ?_ _ | (apply gr_tail; assumption) | refine gr_drewN ?_ _ | refine gr_drew ?_)) _)
        have hl5 : Hid ((lateL E j (k + 1)).length = L.length + 1) := by rw [Hid, hL.out]; simp
        rw [← hL.out] at hown5
        go_wp2
        (go_roundw; (case rel => exact ⟨k + 1, A5, c5, by omega, by go_num, by rw [hS.out], by rw [hl5.out], hown5, hg5⟩); (case measure => simp [intOf]; omega))
      · have hb : decide (e > Y.due) = false := by simp; omega
        rw [if_neg hgt] at hS hL
        replace hS := hide hS
        replace hL := hide hL
        clear hgt
        go_quiet (fail)
        go_wp2_with fail
        (go_roundw; (case rel => exact ⟨k + 1, A', c', by omega, by go_num, by rw [hS.out], by rw [hL.out], by rw [hL.out]; exact hown.pure (by repeat (first | exact World.grownBy.refl _ _ | assumption | refine gr_alloc ?_ _ | (apply gr_tail; assumption) | refine gr_drewN ?_ _ | refine gr_drew ?_)), by exact (by repeat (first | exact World.grownBy.refl _ _ | assumption | refine gr_alloc ?_ _ | (apply gr_tail; assumption) | refine gr_drewN ?_ _ | refine gr_drew ?_))⟩); (case measure => simp [intOf]; omega))
    · have hke : k = j.length := by omega
      subst hke
      go_wp2_with fail
      have hEE := hEE.out
      subst hEE
      refine bodyPost_ret (v := .tuple #[.int .i64 (lateS (endsF p j plan ch) j j.length), .slice A' (lateL (endsF p j plan ch) j j.length).length c']) (by simp [results, Tryd.results48, go_sem]) rfl ⟨_, _, rfl, hown.sl.mono (Nat.zero_le _), hgw⟩

end Go.Proofs.YtanioobepfllgaaDoor

namespace Go.Proofs.YtanioobepfllgaaDoor
open Go Go.RowKit Go.Bl

/-- the minutes that a row of jobs is late, from a clock on -/
def lateR (j : List Jb) (ch : Int) (c : Int × ByteArray) : List Int → Int
  | [] => 0
  | i :: r => max 0 ((doC c (jobAt j i) ch).1 - (jobAt j i).due) + lateR j ch (doC c (jobAt j i) ch) r

def stepO (f : List Int → Int) (s : List Int × Int) (o : List Int) : List Int × Int := if s.2 < 0 ∨ f o < s.2 then (o, f o) else s

def moreL (g : List Int → List Int × Int → List Int × Int) (o : List Int) (s : List Int × Int) : Nat → List Int × Int
  | 0 => s
  | m + 1 => if (m : Int) ∈ o then moreL g o s m else g (o ++ [(m : Int)]) (moreL g o s m)

def moreS (f : List Int → Int) (n : Nat) : Nat → List Int → List Int × Int → List Int × Int
  | 0, o, s => stepO f s o
  | k + 1, o, s => moreL (moreS f n k) o s n

structure IsP (n : Nat) (o : List Int) : Prop where
  nd : o.Nodup
  bd : ∀ i ∈ o, 0 ≤ i ∧ i < (n : Int)
/-- what the search has found: nothing yet, or an order and how late it is -/
def Fnd (f : List Int → Int) (n : Nat) (s : List Int × Int) : Prop := s.2 < 0 ∨ (IsP n s.1 ∧ s.1.length = n ∧ s.2 = f s.1)

/-- the least late order -/
def leastL (f : List Int → Int) (n : Nat) : List Int × Int := moreS f n n [] ([], -1)

theorem lateR_nn (j : List Jb) (ch : Int) : ∀ (c : Int × ByteArray) (o : List Int), 0 ≤ lateR j ch c o
  | _, [] => Int.le_refl _
  | c, i :: r => by
    unfold lateR
    have := lateR_nn j ch (doC c (jobAt j i) ch) r
    omega

theorem lateR_snoc (j : List Jb) (ch : Int) : ∀ (c : Int × ByteArray) (o : List Int) (i : Int), lateR j ch c (o ++ [i]) = lateR j ch c o + max 0 ((doC (clkC j ch c o) (jobAt j i) ch).1 - (jobAt j i).due)
  | c, [], i => by simp [lateR, clkC]
  | c, a :: o, i => by
    rw [List.cons_append, lateR, lateR_snoc j ch _ o i, lateR]
    show _ = _ + max 0 ((doC (clkC j ch (doC c (jobAt j a) ch) o) (jobAt j i) ch).1 - _)
    omega
/-- by its pairs: whose end, and how late -/
theorem lateR_pairs (j : List Jb) (ch : Int) : ∀ (c : Int × ByteArray) (o : List Int), lateR j ch c o = ((rowC j ch c o).map fun q => max 0 (q.2 - (jobAt j q.1).due)).sum
  | _, [] => rfl
  | c, i :: r => by
    rw [lateR, rowC, List.map_cons, List.sum_cons, lateR_pairs j ch _ r]

theorem outO_get {n : Nat} : ∀ (L : List (Int × Int)) (o : List Int), o.length = n → (L.map (·.1)).Nodup → (∀ q ∈ L, 0 ≤ q.1 ∧ q.1 < (n : Int)) →
    (∀ q ∈ L, (L.foldl (fun o q => o.set q.1.toNat q.2) o).getD q.1.toNat 0 = q.2) ∧ ∀ k : Nat, (k : Int) ∉ L.map (·.1) → (L.foldl (fun o q => o.set q.1.toNat q.2) o).getD k 0 = o.getD k 0
  | [], o, _, _, _ => ⟨by simp, fun _ _ => rfl⟩
  | p :: L, o, ho, hn, hb => by
    rw [List.map_cons, List.nodup_cons] at hn
    obtain ⟨h1, h2⟩ := outO_get L (o.set p.1.toNat p.2) (by rw [List.length_set]; exact ho) hn.2 (fun q hq => hb q (List.mem_cons_of_mem _ hq))
    have hpb := hb p (by simp)
    refine ⟨fun q hq => ?_, fun k hk => ?_⟩
    · rw [List.foldl_cons]
      rcases List.mem_cons.1 hq with rfl | hq
      · rw [h2 _ (by rw [Int.toNat_of_nonneg hpb.1]; exact hn.1)]
        rw [List.getD_eq_getElem?_getD, List.getElem?_set_self (by omega)]; rfl
      · exact h1 q hq
    · rw [List.foldl_cons]
      rw [List.map_cons, List.mem_cons, not_or] at hk
      rw [h2 k hk.2, List.getD_eq_getElem?_getD, List.getD_eq_getElem?_getD, List.getElem?_set_ne (by omega)]

theorem isP_good {n : Nat} {o : List Int} (h : IsP n o) : ∀ i (hi : i < o.length), 0 ≤ o[i] ∧ o[i] < n ∧ memI (o.take i) o[i] = false := by
  intro i hi
  have hb := h.bd _ (List.getElem_mem hi)
  refine ⟨hb.1, hb.2, ?_⟩
  unfold memI
  rw [decide_eq_false_iff_not]
  intro hm
  obtain ⟨k, hk, e⟩ := List.mem_take_iff_getElem.1 hm
  have := (List.nodup_iff_pairwise_ne.1 h.nd)
  have := List.pairwise_iff_getElem.1 this k i (by omega) hi (by omega)
  exact this e

theorem isP_all {n : Nat} {o : List Int} (h : IsP n o) (hl : o.length = n) {k : Nat} (hk : k < n) : (k : Int) ∈ o := by
  have hc := seenN_all (isP_good h)
  rw [decide_eq_false (by omega)] at hc
  have hk2 : k < (seenN n o).length := by rw [seenN_len]; exact hk
  have hg := seenN_get hk2
  have : (seenN n o)[k] ≠ false := fun e => by
    have : (seenN n o).contains false = true := List.contains_iff_mem.2 (e ▸ List.getElem_mem hk2)
    rw [hc] at this; cases this
  rw [hg] at this
  unfold memI at this
  simpa using this

theorem isP_perm {n : Nat} {o : List Int} (h : IsP n o) (hl : o.length = n) : o.Perm ((List.range n).map fun i : Nat => (i : Int)) := by
  have h2 : ((List.range n).map fun i : Nat => (i : Int)).Nodup := by
    rw [List.nodup_iff_pairwise_ne, List.pairwise_map]
    exact List.pairwise_lt_range.imp fun h => by omega
  refine (List.perm_ext_iff_of_nodup h.nd h2).2 fun a => ⟨fun ha => ?_, fun ha => ?_⟩
  · have hb := h.bd a ha
    obtain ⟨q, rfl⟩ := Int.eq_ofNat_of_zero_le hb.1
    exact List.mem_map.2 ⟨q, List.mem_range.2 (by omega), rfl⟩
  · obtain ⟨q, hq, rfl⟩ := List.mem_map.1 ha
    exact isP_all h hl (List.mem_range.1 hq)

theorem perm_sum {l m : List Int} (h : l.Perm m) (F : Int → Int) : (l.map F).sum = (m.map F).sum := by
  induction h with
  | nil => rfl
  | cons a _ ih => rw [List.map_cons, List.map_cons, List.sum_cons, List.sum_cons, ih]
  | swap a b l => simp only [List.map_cons, List.sum_cons]; omega
  | trans _ _ ih1 ih2 => rw [ih1, ih2]

theorem lateS_sum (E : List Int) (j : List Jb) : ∀ k, lateS E j k = (((List.range k).map fun i : Nat => (i : Int)).map fun i => max 0 (E.getD i.toNat 0 - (jobAt j i).due)).sum
  | 0 => rfl
  | k + 1 => by
    rw [List.range_succ, List.map_append, List.map_append, List.sum_append, ← lateS_sum E j k]
    simp only [List.map_cons, List.map_nil, List.sum_cons, List.sum_nil, lateS, jobAt, Int.toNat_natCast]
    split <;> omega

theorem lateS_order {p : List Prn} {j : List Jb} {ch : Int} {o : List Int} (h : IsP j.length o) (hl : o.length = j.length) :
    lateS (endsF p j [o] ch) j j.length = lateR j ch (0, (p.getD 0 default).mat) o := by
  have hE : endsF p j [o] ch = (rowC j ch (0, (p.getD 0 default).mat) o).foldl (fun o q => o.set q.1.toNat q.2) (List.replicate j.length 0) := by
    unfold endsF outO pairsK rowP
    simp [List.range_succ]
  obtain ⟨h1, -⟩ := outO_get (n := j.length) (rowC j ch (0, (p.getD 0 default).mat) o) (List.replicate j.length 0) (by simp) (by rw [rowC_fst]; exact h.nd) (fun q hq => by
    have : q.1 ∈ (rowC j ch (0, (p.getD 0 default).mat) o).map (·.1) := List.mem_map_of_mem hq
    rw [rowC_fst] at this
    exact h.bd _ this)
  rw [lateS_sum, ← perm_sum (isP_perm h hl), lateR_pairs]
  generalize endsF p j [o] ch = E at *
  conv => lhs; rw [← rowC_fst j ch (0, (p.getD 0 default).mat) o]
  rw [List.map_map]
  congr 1
  refine List.map_congr_left fun q hq => ?_
  show max 0 (E.getD q.1.toNat 0 - (jobAt j q.1).due) = _
  rw [hE, h1 q hq]

theorem planK_order {n : Nat} {o : List Int} (h : IsP n o) (hl : o.length = n) : ∀ d, d ≤ o.length → planK n o (o.length - d) = 0
  | 0, _ => by rw [Nat.sub_zero, planK_end, if_neg (by omega)]
  | d + 1, hd => by
    have hk : o.length - (d + 1) < o.length := by omega
    obtain ⟨h1, h2, h3⟩ := isP_good h _ hk
    rw [planK_step hk, if_neg (by omega), h3, if_neg (by decide), show o.length - (d + 1) + 1 = o.length - d by omega]
    exact planK_order h hl d (by omega)

theorem planned_order {p : List Prn} {j : List Jb} {ch : Int} {o : List Int} (hF : farmF p j = 0) (hp : p.length = 1) (hc : spanF ch 0 100000 = 0) (h : IsP j.length o) (hl : o.length = j.length) : plannedF p j [o] ch = 0 := by
  have hk := planK_order h hl o.length (Nat.le_refl _)
  rw [Nat.sub_self] at hk
  unfold plannedF
  have h0 : planF p j [o] = 0 := by
    unfold planF
    rw [if_neg (by simp [hF]), if_neg (by simp [hp])]
    simpa using hk
  rw [if_pos h0]
  exact hc

end Go.Proofs.YtanioobepfllgaaDoor

namespace Go.Proofs.YtanioobepfllgaaDoor
open Go Go.RowKit Go.Bl

/-! ### lists compared -/

def cmpG {α : Type} (c : α → α → Int) : List α → List α → Int
  | [], [] => 0
  | [], _ :: _ => -1
  | _ :: _, [] => 1
  | a :: x, b :: y => if c a b = 0 then cmpG c x y else c a b
/-- a strict order as a number -/
structure Cm {α : Type} (c : α → α → Int) : Prop where
  neg : ∀ a b, c b a = -(c a b)
  zero : ∀ a b, c a b = 0 ↔ a = b
  trans : ∀ a b d, c a b < 0 → c b d < 0 → c a d < 0

theorem cmI : Cm Lib.compareInt := by
  refine ⟨fun a b => ?_, fun a b => ?_, fun a b d => ?_⟩ <;> unfold Lib.compareInt <;> (repeat' split) <;> omega

theorem cmG {α : Type} {c : α → α → Int} (h : Cm c) : Cm (cmpG c) := by
  refine ⟨?_, ?_, ?_⟩
  · intro a
    induction a with
    | nil => intro b; cases b <;> rfl
    | cons a x ih =>
      intro b
      cases b with
      | nil => rfl
      | cons b y =>
        unfold cmpG
        rw [h.neg a b, ih y]
        by_cases e : c a b = 0
        · rw [if_pos e, if_pos (by omega)]
        · rw [if_neg e, if_neg (by omega)]
  · intro a
    induction a with
    | nil => intro b; cases b <;> simp [cmpG]
    | cons a x ih =>
      intro b
      cases b with
      | nil => simp [cmpG]
      | cons b y =>
        unfold cmpG
        by_cases e : c a b = 0
        · rw [if_pos e, ih, List.cons.injEq, (h.zero a b).1 e]; simp
        · rw [if_neg e]
          simp only [List.cons.injEq]
          exact ⟨fun h1 => absurd h1 e, fun h1 => absurd ((h.zero a b).2 h1.1) e⟩
  · intro a
    induction a with
    | nil => intro b d; cases b <;> cases d <;> simp [cmpG]
    | cons a x ih =>
      intro b d h1 h2
      cases b with
      | nil => simp [cmpG] at h1
      | cons b y =>
        cases d with
        | nil => simp [cmpG] at h2
        | cons d z =>
          unfold cmpG at h1 h2 ⊢
          by_cases e1 : c a b = 0
          · rw [if_pos e1] at h1
            rw [(h.zero a b).1 e1]
            by_cases e2 : c b d = 0
            · rw [if_pos e2] at h2 ⊢
              exact ih y z h1 h2
            · rw [if_neg e2] at h2 ⊢
              exact h2
          · rw [if_neg e1] at h1
            by_cases e2 : c b d = 0
            · rw [← (h.zero b d).1 e2, if_neg e1]
              exact h1
            · rw [if_neg e2] at h2
              have := h.trans a b d h1 h2
              rw [if_neg (by omega)]
              exact this

abbrev cmpL : List Int → List Int → Int := cmpG Lib.compareInt

abbrev cmpLL : List (List Int) → List (List Int) → Int := cmpG cmpL

theorem cmLL : Cm cmpLL := cmG (cmG cmI)

/-! ### plans -/

structure IsPl (m n : Nat) (Q : List (List Int)) : Prop where
  len : Q.length = m
  isp : IsP n Q.flatten
  all : Q.flatten.length = n
/-- a plan of some jobs, with rows up to k -/
structure Part (m n k : Nat) (P : List (List Int)) : Prop where
  len : P.length = m
  km : k < m
  isp : IsP n P.flatten
  up : ∀ x ∈ P.drop (k + 1), x = []

def Comp (m n k : Nat) (P Q : List (List Int)) : Prop := IsPl m n Q ∧ Q.take k = P.take k ∧ ∃ t, Q.getD k [] = P.getD k [] ++ t

theorem row_split {P : List (List Int)} {k : Nat} (h : k < P.length) : P = P.take k ++ P.getD k [] :: P.drop (k + 1) := by
  have e : P.getD k [] = P[k] := by simp [List.getD_eq_getElem?_getD, h]
  rw [e, ← List.drop_eq_getElem_cons h, List.take_append_drop]

theorem flat_nil : ∀ {L : List (List Int)}, (∀ x ∈ L, x = []) → L.flatten = []
  | [], _ => rfl
  | a :: L, h => by rw [List.flatten_cons, h a (by simp), flat_nil (fun x hx => h x (by simp [hx])), List.append_nil]

theorem flat_len0 : ∀ {L : List (List Int)}, L.flatten.length = 0 → ∀ x ∈ L, x = []
  | [], _, x, hx => by cases hx
  | a :: L, h, x, hx => by
    rw [List.flatten_cons, List.length_append] at h
    rcases List.mem_cons.1 hx with rfl | hx
    · exact List.eq_nil_of_length_eq_zero (by omega)
    · exact flat_len0 (L := L) (by omega) x hx

theorem Part.flat {m n k : Nat} {P : List (List Int)} (h : Part m n k P) : P.flatten = (P.take k).flatten ++ P.getD k [] := by
  conv => lhs; rw [row_split (P := P) (k := k) (by rw [h.len]; exact h.km)]
  rw [List.flatten_append, List.flatten_cons, flat_nil h.up, List.append_nil]

theorem set_split {P : List (List Int)} {k : Nat} (h : k < P.length) (x : List Int) : P.set k x = P.take k ++ x :: P.drop (k + 1) := by
  rw [List.set_eq_take_append_cons_drop, if_pos h]

theorem Part.flat_set {m n k : Nat} {P : List (List Int)} (h : Part m n k P) (x : List Int) : (P.set k x).flatten = (P.take k).flatten ++ x := by
  rw [set_split (by rw [h.len]; exact h.km), List.flatten_append, List.flatten_cons, flat_nil h.up, List.append_nil]

theorem getD_setL {P : List (List Int)} {k : Nat} (h : k < P.length) (x : List Int) : (P.set k x).getD k [] = x := by simp [List.getD_eq_getElem?_getD, h]

theorem take_set {P : List (List Int)} {k : Nat} (x : List Int) : (P.set k x).take k = P.take k := by rw [List.take_set_of_le (Nat.le_refl _)]

theorem drop_set {P : List (List Int)} {k : Nat} (x : List Int) : (P.set k x).drop (k + 1) = P.drop (k + 1) := by rw [List.drop_set_of_lt (by omega)]
/-- one more job in the row -/
theorem Part.push {m n k : Nat} {P : List (List Int)} (h : Part m n k P) {i : Nat} (hi : i < n) (hn : memI P.flatten (i : Int) = false) : Part m n k (P.set k (P.getD k [] ++ [(i : Int)])) := by
  refine ⟨by rw [List.length_set]; exact h.len, h.km, ?_, by rw [drop_set]; exact h.up⟩
  rw [h.flat_set, ← List.append_assoc, ← h.flat]
  unfold memI at hn
  rw [decide_eq_false_iff_not] at hn
  refine ⟨?_, fun x hx => ?_⟩
  · rw [List.nodup_append]
    refine ⟨h.isp.nd, by simp, fun a ha b hb => ?_⟩
    rw [List.mem_singleton] at hb
    subst hb
    exact fun e => hn (e ▸ ha)
  · rw [List.mem_append, List.mem_singleton] at hx
    rcases hx with hx | rfl
    · exact h.isp.bd x hx
    · omega

theorem Part.push_flat {m n k : Nat} {P : List (List Int)} (h : Part m n k P) (i : Int) : (P.set k (P.getD k [] ++ [i])).flatten = P.flatten ++ [i] := by
  rw [h.flat_set, ← List.append_assoc, ← h.flat]

theorem Part.next {m n k : Nat} {P : List (List Int)} (h : Part m n k P) (hk : k + 1 < m) : Part m n (k + 1) P ∧ P.getD (k + 1) [] = [] := by
  have hk2 : k + 1 < P.length := by rw [h.len]; exact hk
  have e : P.drop (k + 1) = P[k + 1] :: P.drop (k + 1 + 1) := List.drop_eq_getElem_cons hk2
  have h0 : P[k + 1] = [] := h.up _ (by rw [e]; exact List.mem_cons_self)
  exact ⟨⟨h.len, hk, h.isp, fun x hx => h.up x (by rw [e]; exact List.mem_cons_of_mem _ hx)⟩, by simp [List.getD_eq_getElem?_getD, hk2, h0]⟩

theorem eq_nils : ∀ {A B : List (List Int)}, A.length = B.length → (∀ x ∈ A, x = []) → (∀ x ∈ B, x = []) → A = B
  | [], [], _, _, _ => rfl
  | [], _ :: _, h, _, _ => by simp at h
  | _ :: _, [], h, _, _ => by simp at h
  | a :: A, b :: B, h, h1, h2 => by
    rw [h1 a (by simp), h2 b (by simp), eq_nils (A := A) (B := B) (by simpa using h) (fun x hx => h1 x (by simp [hx])) (fun x hx => h2 x (by simp [hx]))]

theorem Comp.split {m n k : Nat} {P Q : List (List Int)} (hP : Part m n k P) (h : Comp m n k P Q) : ∃ t, Q = P.take k ++ (P.getD k [] ++ t) :: Q.drop (k + 1) ∧ Q.getD k [] = P.getD k [] ++ t := by
  obtain ⟨h1, h2, t, h3⟩ := h
  refine ⟨t, ?_, h3⟩
  conv => lhs; rw [row_split (P := Q) (k := k) (by rw [h1.len]; exact hP.km)]
  rw [h2, h3]
/-- all jobs have their place: this plan alone -/
theorem comp_leaf {m n k : Nat} {P Q : List (List Int)} (hP : Part m n k P) (hn : P.flatten.length = n) : Comp m n k P Q ↔ Q = P := by
  constructor
  · intro h
    obtain ⟨t, e, -⟩ := h.split hP
    have hq := h.1.all
    have hql := h.1.len
    rw [e, List.flatten_append, List.flatten_cons, List.length_append, List.length_append, List.length_append] at hq
    have hp := hn
    rw [hP.flat, List.length_append] at hp
    have ht : t = [] := List.eq_nil_of_length_eq_zero (by omega)
    have hd := flat_len0 (L := Q.drop (k + 1)) (by omega)
    have hkP : k < P.length := by rw [hP.len]; exact hP.km
    have e2 : Q.drop (k + 1) = P.drop (k + 1) := eq_nils (by rw [List.length_drop, List.length_drop, hql, hP.len]) hd hP.up
    have e3 := e
    rw [ht, List.append_nil, e2] at e3
    exact e3.trans (row_split hkP).symm
  · rintro rfl
    exact ⟨⟨hP.len, hP.isp, hn⟩, rfl, [], by simp⟩
/-- some have not: one more in this row, or the next row -/
theorem comp_node {m n k : Nat} {P Q : List (List Int)} (hP : Part m n k P) (hn : P.flatten.length < n) (h : Comp m n k P Q) :
    (k + 1 < m ∧ Comp m n (k + 1) P Q) ∨ ∃ i : Nat, i < n ∧ memI P.flatten (i : Int) = false ∧ Comp m n k (P.set k (P.getD k [] ++ [(i : Int)])) Q := by
  obtain ⟨t, e, e3⟩ := h.split hP
  have hkP : k < P.length := by rw [hP.len]; exact hP.km
  have hkQ : k < Q.length := by rw [h.1.len]; exact hP.km
  cases t with
  | nil =>
    left
    rw [List.append_nil] at e3
    have hkm : k + 1 < m := by
      rcases Nat.lt_or_ge (k + 1) m with h1 | h1
      · exact h1
      · have hq := h.1.all
        have : Q.drop (k + 1) = [] := List.drop_of_length_le (by rw [h.1.len]; omega)
        rw [e, this, List.append_nil] at hq
        rw [List.flatten_append, List.flatten_cons, List.flatten_nil, List.append_nil, List.length_append] at hq
        rw [hP.flat, List.length_append] at hn
        omega
    obtain ⟨hp1, hp2⟩ := hP.next hkm
    refine ⟨hkm, h.1, ?_, Q.getD (k + 1) [], by rw [hp2]; rfl⟩
    have eQ : Q[k] = P[k] := by
      have h1 : Q.getD k [] = Q[k] := by simp [List.getD_eq_getElem?_getD, hkQ]
      have h2 : P.getD k [] = P[k] := by simp [List.getD_eq_getElem?_getD, hkP]
      rw [← h1, ← h2, e3]
    rw [List.take_succ_eq_append_getElem hkQ, List.take_succ_eq_append_getElem hkP, h.2.1, eQ]
  | cons x t =>
    right
    have hi := h.1.isp
    have hfl : Q.flatten = P.flatten ++ (x :: t ++ (Q.drop (k + 1)).flatten) := by
      conv => lhs; rw [e]
      rw [List.flatten_append, List.flatten_cons, hP.flat]
      simp [List.append_assoc]
    rw [hfl] at hi
    have hx := hi.bd x (by simp)
    obtain ⟨i, rfl⟩ := Int.eq_ofNat_of_zero_le hx.1
    refine ⟨i, by omega, ?_, h.1, by rw [take_set]; exact h.2.1, t, ?_⟩
    · unfold memI
      rw [decide_eq_false_iff_not]
      intro hm
      exact (List.nodup_append.1 hi.nd).2.2 _ hm (i : Int) (by simp) rfl
    · rw [getD_setL hkP, e3]; simp

theorem comp_push {m n k : Nat} {P Q : List (List Int)} (hP : Part m n k P) {i : Int} (h : Comp m n k (P.set k (P.getD k [] ++ [i])) Q) : Comp m n k P Q := by
  obtain ⟨h1, h2, t, h3⟩ := h
  rw [take_set] at h2
  rw [getD_setL (by rw [hP.len]; exact hP.km)] at h3
  exact ⟨h1, h2, i :: t, by rw [h3]; simp⟩

theorem comp_next {m n k : Nat} {P Q : List (List Int)} (hP : Part m n k P) (h : Comp m n (k + 1) P Q) : Comp m n k P Q := by
  obtain ⟨h1, h2, -⟩ := h
  have hkP : k < P.length := by rw [hP.len]; exact hP.km
  have hkQ : k < Q.length := by rw [h1.len]; exact hP.km
  rw [List.take_succ_eq_append_getElem hkQ, List.take_succ_eq_append_getElem hkP] at h2
  obtain ⟨a, b⟩ := List.append_inj' h2 rfl
  refine ⟨h1, a, [], ?_⟩
  injection b with b
  have h3 : Q.getD k [] = Q[k] := by simp [List.getD_eq_getElem?_getD, hkQ]
  have h4 : P.getD k [] = P[k] := by simp [List.getD_eq_getElem?_getD, hkP]
  rw [h3, h4, b, List.append_nil]

/-! ### what a plan is worth -/
section
variable (p : List Prn) (j : List Jb) (ch : Int)

def prsA (Q : List (List Int)) : List (Int × Int) := pairsK p j Q ch p.length

def lstP (Q : List (List Int)) : Int := lastO (prsA p j ch Q)

def sumP (Q : List (List Int)) : Int := ((prsA p j ch Q).map (·.2)).sum
/-- the better one of two -/
def Kle (Q R : List (List Int)) : Prop := lstP p j ch Q < lstP p j ch R ∨ (lstP p j ch Q = lstP p j ch R ∧ (sumP p j ch Q < sumP p j ch R ∨ (sumP p j ch Q = sumP p j ch R ∧ cmpLL Q R ≤ 0)))

theorem Kle.rfl' (Q : List (List Int)) : Kle p j ch Q Q := .inr ⟨rfl, .inr ⟨rfl, by rw [(cmLL.zero Q Q).2 rfl]; decide⟩⟩

theorem cm_le {α : Type} {c : α → α → Int} (h : Cm c) {a b d : α} (h1 : c a b ≤ 0) (h2 : c b d ≤ 0) : c a d ≤ 0 := by
  by_cases e1 : c a b = 0
  · rw [(h.zero a b).1 e1]; exact h2
  · by_cases e2 : c b d = 0
    · rw [← (h.zero b d).1 e2]; exact h1
    · have := h.trans a b d (by omega) (by omega)
      omega
variable {p j ch}

theorem Kle.trans {Q R S : List (List Int)} (h1 : Kle p j ch Q R) (h2 : Kle p j ch R S) : Kle p j ch Q S := by
  unfold Kle at *
  rcases h1 with h1 | ⟨h1, h1'⟩
  · rcases h2 with h2 | ⟨h2, h2'⟩
    · left; omega
    · left; omega
  · rcases h2 with h2 | ⟨h2, h2'⟩
    · left; omega
    · right
      refine ⟨by omega, ?_⟩
      rcases h1' with h1' | ⟨h1', h3⟩
      · left
        rcases h2' with h2' | ⟨h2', -⟩ <;> omega
      · rcases h2' with h2' | ⟨h2', h4⟩
        · left; omega
        · right
          exact ⟨by omega, cm_le cmLL h3 h4⟩

theorem Kle.total (Q R : List (List Int)) : Kle p j ch Q R ∨ Kle p j ch R Q := by
  unfold Kle
  have := cmLL.neg Q R
  omega

theorem Kle.anti {Q R : List (List Int)} (h1 : Kle p j ch Q R) (h2 : Kle p j ch R Q) : Q = R := by
  unfold Kle at *
  have := cmLL.neg Q R
  exact (cmLL.zero Q R).1 (by omega)

theorem Kle.last {Q R : List (List Int)} (h : Kle p j ch Q R) : lstP p j ch Q ≤ lstP p j ch R := by
  unfold Kle at h
  omega
/-- is it better? -/
def betS (last sum : Int) (P : List (List Int)) : Option (List (List Int) × Int × Int) → Bool
  | none => true
  | some R => if last = R.2.1 then (if sum = R.2.2 then decide (cmpLL P R.1 < 0) else decide (sum < R.2.2)) else decide (last < R.2.1)

/-! ### the best of some -/

def Bst (p : List Prn) (j : List Jb) (ch : Int) (S : List (List Int) → Prop) (b b' : Option (List (List Int))) : Prop :=
  (b' = b ∨ ∃ R, b' = some R ∧ S R) ∧ (∀ Q, S Q → ∃ R, b' = some R ∧ Kle p j ch R Q) ∧ (∀ Q, b = some Q → ∃ R, b' = some R ∧ Kle p j ch R Q)

theorem Bst.none {S : List (List Int) → Prop} (b : Option (List (List Int))) (h : ∀ Q, ¬ S Q) : Bst p j ch S b b :=
  ⟨.inl rfl, fun Q hQ => absurd hQ (h Q), fun Q hQ => ⟨Q, hQ, Kle.rfl' p j ch Q⟩⟩

theorem Bst.join {S T : List (List Int) → Prop} {b b' b'' : Option (List (List Int))} (h1 : Bst p j ch S b b') (h2 : Bst p j ch T b' b'') : Bst p j ch (fun Q => S Q ∨ T Q) b b'' := by
  obtain ⟨a1, a2, a3⟩ := h1
  obtain ⟨c1, c2, c3⟩ := h2
  refine ⟨?_, fun Q hQ => ?_, fun Q hQ => ?_⟩
  · rcases c1 with c1 | ⟨R, e, hR⟩
    · rcases a1 with a1 | ⟨R, e, hR⟩
      · exact .inl (c1.trans a1)
      · exact .inr ⟨R, c1.trans e, .inl hR⟩
    · exact .inr ⟨R, e, .inr hR⟩
  · rcases hQ with hQ | hQ
    · obtain ⟨R, e, h⟩ := a2 Q hQ
      obtain ⟨R2, e2, h2⟩ := c3 R e
      exact ⟨R2, e2, h2.trans h⟩
    · exact c2 Q hQ
  · obtain ⟨R, e, h⟩ := a3 Q hQ
    obtain ⟨R2, e2, h2⟩ := c3 R e
    exact ⟨R2, e2, h2.trans h⟩

theorem Bst.of {S T : List (List Int) → Prop} {b b' : Option (List (List Int))} (h : Bst p j ch S b b') (hs : ∀ Q, T Q ↔ S Q) : Bst p j ch T b b' :=
  ⟨h.1.imp id fun ⟨R, e, hR⟩ => ⟨R, e, (hs R).2 hR⟩, fun Q hQ => h.2.1 Q ((hs Q).1 hQ), h.2.2⟩

theorem Bst.prune {S : List (List Int) → Prop} {R : List (List Int)} (h : ∀ Q, S Q → lstP p j ch R < lstP p j ch Q) : Bst p j ch S (some R) (some R) :=
  ⟨.inl rfl, fun Q hQ => ⟨R, rfl, .inl (h Q hQ)⟩, fun Q hQ => ⟨Q, hQ, Kle.rfl' p j ch Q⟩⟩

theorem Bst.leaf {S : List (List Int) → Prop} {P : List (List Int)} {b : Option (List (List Int))} (hS : ∀ Q, S Q ↔ Q = P) : Bst p j ch S b (if betS (lstP p j ch P) (sumP p j ch P) P (b.map fun R => (R, lstP p j ch R, sumP p j ch R)) then some P else b) := by
  cases b with
  | none => exact ⟨.inr ⟨P, rfl, (hS P).2 rfl⟩, fun Q hQ => ⟨P, rfl, by rw [(hS Q).1 hQ]; exact Kle.rfl' p j ch P⟩, fun Q hQ => by cases hQ⟩
  | some R =>
    have hk : betS (lstP p j ch P) (sumP p j ch P) P (some (R, lstP p j ch R, sumP p j ch R)) = true ↔ ¬ Kle p j ch R P := by
      unfold betS Kle
      have hn := cmLL.neg P R
      simp only
      split
      · split
        · rw [decide_eq_true_eq]; omega
        · rw [decide_eq_true_eq]; omega
      · rw [decide_eq_true_eq]; omega
    by_cases hb : betS (lstP p j ch P) (sumP p j ch P) P (some (R, lstP p j ch R, sumP p j ch R)) = true
    · have hPR : Kle p j ch P R := (Kle.total P R).resolve_right (hk.1 hb)
      show Bst p j ch S (some R) (if betS (lstP p j ch P) (sumP p j ch P) P (some (R, lstP p j ch R, sumP p j ch R)) = true then some P else some R)
      rw [if_pos hb]
      exact ⟨.inr ⟨P, rfl, (hS P).2 rfl⟩, fun Q hQ => ⟨P, rfl, by rw [(hS Q).1 hQ]; exact Kle.rfl' p j ch P⟩, fun Q hQ => by injection hQ with hQ; subst hQ; exact ⟨P, rfl, hPR⟩⟩
    · have hRP : Kle p j ch R P := Classical.byContradiction fun h => hb (hk.2 h)
      show Bst p j ch S (some R) (if betS (lstP p j ch P) (sumP p j ch P) P (some (R, lstP p j ch R, sumP p j ch R)) = true then some P else some R)
      rw [if_neg hb]
      exact ⟨.inl rfl, fun Q hQ => ⟨R, rfl, by rw [(hS Q).1 hQ]; exact hRP⟩, fun Q hQ => by injection hQ with hQ; subst hQ; exact ⟨R, rfl, Kle.rfl' p j ch R⟩⟩
end

/-! ### the ends, while a plan grows -/

theorem pairsK_add (p : List Prn) (j : List Jb) (Q : List (List Int)) (ch : Int) (k : Nat) : ∀ d, ∃ L, pairsK p j Q ch (k + d) = pairsK p j Q ch k ++ L
  | 0 => ⟨[], by simp⟩
  | d + 1 => by
    obtain ⟨L, e⟩ := pairsK_add p j Q ch k d
    exact ⟨L ++ rowP p j ch Q (k + d), by rw [← Nat.add_assoc, pairsK_succ, e, List.append_assoc]⟩

theorem pairsK_nil (p : List Prn) (j : List Jb) {Q : List (List Int)} (ch : Int) {k : Nat} (h : ∀ x ∈ Q.drop k, x = []) : ∀ d, pairsK p j Q ch (k + d) = pairsK p j Q ch k
  | 0 => rfl
  | d + 1 => by
    rw [← Nat.add_assoc, pairsK_succ, pairsK_nil p j ch h d]
    have e : Q.getD (k + d) [] = [] := by
      by_cases hl : k + d < Q.length
      · have h1 : Q.getD (k + d) [] = Q[k + d] := by simp [List.getD_eq_getElem?_getD, hl]
        rw [h1]
        refine h _ ?_
        have h2 : (Q.drop k)[d]'(by rw [List.length_drop]; omega) = Q[k + d] := by rw [List.getElem_drop]
        rw [← h2]
        exact List.getElem_mem _
      · simp [List.getD_eq_getElem?_getD, List.getElem?_eq_none (by omega : Q.length ≤ k + d)]
    unfold rowP
    rw [e]
    simp [rowC]

theorem pairsK_same (p : List Prn) (j : List Jb) {P Q : List (List Int)} (ch : Int) : ∀ {k : Nat}, Q.take k = P.take k → pairsK p j Q ch k = pairsK p j P ch k
  | 0, _ => rfl
  | k + 1, h => by
    have h1 : Q.take k = P.take k := by
      have := congrArg (List.take k) h
      rwa [List.take_take, List.take_take, Nat.min_eq_left (by omega)] at this
    rw [pairsK_succ, pairsK_succ, pairsK_same p j ch h1]
    have h2 : Q.getD k [] = P.getD k [] := by
      have h3 : (Q.take (k + 1)).getD k [] = (P.take (k + 1)).getD k [] := by rw [h]
      simpa [List.getD_eq_getElem?_getD, List.getElem?_take] using h3
    unfold rowP
    rw [h2]

theorem Part.prs {p : List Prn} {j : List Jb} {ch : Int} {n k : Nat} {P : List (List Int)} (h : Part p.length n k P) : prsA p j ch P = pairsK p j P ch (k + 1) := by
  unfold prsA
  have := h.km
  have e : p.length = k + 1 + (p.length - (k + 1)) := by omega
  rw [e]
  exact pairsK_nil p j ch h.up _
/-- the clock of the row that grows -/
def clkR (p : List Prn) (j : List Jb) (ch : Int) (k : Nat) (P : List (List Int)) : Int × ByteArray := clkC j ch (0, (p.getD k default).mat) (P.getD k [])

theorem Part.prs_push {p : List Prn} {j : List Jb} {ch : Int} {n k : Nat} {P : List (List Int)} (h : Part p.length n k P) {i : Nat} (hi : i < n) (hn : memI P.flatten (i : Int) = false) :
    prsA p j ch (P.set k (P.getD k [] ++ [(i : Int)])) = prsA p j ch P ++ [((i : Int), (doC (clkR p j ch k P) (jobAt j i) ch).1)] := by
  rw [(h.push hi hn).prs, h.prs, pairsK_succ, pairsK_succ, pairsK_same p j ch (take_set _), List.append_assoc]
  congr 1
  unfold rowP clkR
  rw [getD_setL (by rw [h.len]; exact h.km), rowC_snoc]

theorem Part.clk_push {p : List Prn} {j : List Jb} {ch : Int} {n k : Nat} {P : List (List Int)} (h : Part p.length n k P) (i : Nat) :
    clkR p j ch k (P.set k (P.getD k [] ++ [(i : Int)])) = doC (clkR p j ch k P) (jobAt j i) ch := by
  unfold clkR
  rw [getD_setL (by rw [h.len]; exact h.km), clkC_snoc]

theorem lastO_app (L M : List (Int × Int)) : lastO L ≤ lastO (L ++ M) := by
  unfold lastO
  rw [List.foldl_append]
  generalize List.foldl (fun a (q : Int × Int) => max a q.2) 0 L = x
  induction M generalizing x with
  | nil => exact Int.le_refl _
  | cons q M ih =>
    rw [List.foldl_cons]
    exact Int.le_trans (Int.le_max_left _ _) (ih (max x q.2))

theorem comp_last {p : List Prn} {j : List Jb} {ch : Int} {n k : Nat} {P Q : List (List Int)} (hP : Part p.length n k P) (h : Comp p.length n k P Q) : lstP p j ch P ≤ lstP p j ch Q := by
  obtain ⟨t, e, e3⟩ := h.split hP
  obtain ⟨L, hL⟩ := pairsK_add p j Q ch (k + 1) (p.length - (k + 1))
  have hkm := hP.km
  have e4 : k + 1 + (p.length - (k + 1)) = p.length := by omega
  rw [e4] at hL
  have e5 : ∃ M, prsA p j ch Q = prsA p j ch P ++ M := by
    have hQ : prsA p j ch Q = pairsK p j Q ch (k + 1) ++ L := hL
    rw [hQ, hP.prs, pairsK_succ, pairsK_same p j ch h.2.1, pairsK_succ]
    unfold rowP
    rw [e3, rowC_append]
    exact ⟨rowC j ch (clkC j ch (0, (p.getD k default).mat) (P.getD k [])) t ++ L, by simp [List.append_assoc]⟩
  obtain ⟨M, hM⟩ := e5
  unfold lstP
  rw [hM]
  exact lastO_app _ _

theorem part_start (p : List Prn) (n : Nat) (h : 0 < p.length) : Part p.length n 0 (List.replicate p.length []) := by
  have hf : (List.replicate p.length ([] : List Int)).flatten = [] := flat_nil fun x hx => List.eq_of_mem_replicate hx
  refine ⟨by simp, h, by rw [hf]; exact ⟨List.nodup_nil, by simp⟩, fun x hx => ?_⟩
  rw [List.drop_replicate] at hx
  exact List.eq_of_mem_replicate hx

theorem comp_start {p : List Prn} {n : Nat} {Q : List (List Int)} (h0 : 0 < p.length) : Comp p.length n 0 (List.replicate p.length []) Q ↔ IsPl p.length n Q := by
  constructor
  · exact fun h => h.1
  · intro h
    exact ⟨h, rfl, Q.getD 0 [], by simp [List.getD_eq_getElem?_getD, List.getElem?_replicate, h0]⟩
/-- all jobs on the first printer -/
theorem isPl_some {m n : Nat} (h : 0 < m) : ∃ Q, IsPl m n Q := by
  have hid : IsP n ((List.range n).map fun i : Nat => (i : Int)) := by
    refine ⟨?_, fun i hi => ?_⟩
    · rw [List.nodup_iff_pairwise_ne, List.pairwise_map]
      exact List.pairwise_lt_range.imp fun h => by omega
    · obtain ⟨q, hq, rfl⟩ := List.mem_map.1 hi
      have := List.mem_range.1 hq
      omega
  obtain ⟨m, rfl⟩ : ∃ q, m = q + 1 := ⟨m - 1, by omega⟩
  refine ⟨((List.range n).map fun i : Nat => (i : Int)) :: List.replicate m [], ?_⟩
  have e : (((List.range n).map fun i : Nat => (i : Int)) :: List.replicate m []).flatten = (List.range n).map fun i : Nat => (i : Int) := by
    rw [List.flatten_cons, flat_nil fun x hx => List.eq_of_mem_replicate hx, List.append_nil]
  exact ⟨by simp, by rw [e]; exact hid, by rw [e]; simp⟩

/-! ### a right plan -/

theorem isPl_plan {p : List Prn} {j : List Jb} {Q : List (List Int)} (hF : farmF p j = 0) : planF p j Q = 0 ↔ IsPl p.length j.length Q := by
  unfold planF
  rw [if_neg (by simp [hF])]
  constructor
  · intro h
    by_cases hl : Q.length = p.length
    · rw [if_neg (by simp [hl])] at h
      have hg := planK_good h
      have hall : ¬ Q.flatten.length < j.length := by
        have hd : ∀ d, d ≤ Q.flatten.length → planK j.length Q.flatten d = 0 := by
          intro d
          induction d with
          | zero => exact fun _ => h
          | succ d ih =>
            intro hd
            have h1 := ih (by omega)
            have hk : d < Q.flatten.length := by omega
            obtain ⟨g1, g2, g3⟩ := hg d hk
            rw [planK_step hk, if_neg (by omega), g3, if_neg (by decide)] at h1
            exact h1
        have h1 := hd Q.flatten.length (Nat.le_refl _)
        rw [planK_end] at h1
        intro hc
        rw [if_pos hc] at h1
        cases h1
      have hisp : IsP j.length Q.flatten := by
        refine ⟨?_, fun i hi => ?_⟩
        · rw [List.nodup_iff_pairwise_ne, List.pairwise_iff_getElem]
          intro a b ha hb hab e
          have h3 := (hg b hb).2.2
          unfold memI at h3
          rw [decide_eq_false_iff_not] at h3
          refine h3 ?_
          rw [← e]
          exact List.mem_take_iff_getElem.2 ⟨a, by omega, rfl⟩
        · obtain ⟨a, ha, rfl⟩ := List.getElem_of_mem hi
          exact ⟨(hg a ha).1, (hg a ha).2.1⟩
      refine ⟨hl, hisp, ?_⟩
      have hle : Q.flatten.length ≤ j.length := by
        have h2 : Q.flatten ⊆ ((List.range j.length).map fun i : Nat => (i : Int)) := fun x hx => by
          have hb := hisp.bd x hx
          obtain ⟨q, rfl⟩ := Int.eq_ofNat_of_zero_le hb.1
          exact List.mem_map.2 ⟨q, List.mem_range.2 (by omega), rfl⟩
        have h3 := hisp.nd.length_le_of_subset h2
        simpa using h3
      omega
    · rw [if_pos hl] at h
      cases h
  · intro h
    rw [if_neg (by simp [h.len])]
    have := planK_order h.isp h.all Q.flatten.length (Nat.le_refl _)
    rwa [Nat.sub_self] at this

theorem lst_end {p : List Prn} {j : List Jb} {ch : Int} {Q : List (List Int)} (h : Q.length = p.length) : endF p j Q ch = lstP p j ch Q := by
  unfold endF lstP prsA
  rw [h]

end Go.Proofs.YtanioobepfllgaaDoor

namespace Go.Proofs.YtanioobepfllgaaDoor
open Go Go.RowKit Go.Bl

/-- Q comes of P by jobs that are put behind -/
def Ext (m n : Nat) (P Q : List (List Int)) : Prop := ∃ k, Part m n k P ∧ Comp m n k P Q

theorem comp_down {m n i k : Nat} {P Q : List (List Int)} (hP : P.length = m) (hk : k < m) (hi : i ≤ k) (h : Comp m n k P Q) : Comp m n i P Q := by
  obtain ⟨h1, h2, t, h3⟩ := h
  rcases Nat.lt_or_ge i k with hlt | hge
  · have h4 : Q.take i = P.take i := by
      have := congrArg (List.take i) h2
      rwa [List.take_take, List.take_take, Nat.min_eq_left (by omega)] at this
    refine ⟨h1, h4, [], ?_⟩
    have h5 : (Q.take k).getD i [] = (P.take k).getD i [] := by rw [h2]
    simpa [List.getD_eq_getElem?_getD, List.getElem?_take, hlt] using h5
  · obtain rfl : i = k := by omega
    exact ⟨h1, h2, t, h3⟩

theorem ext_node {m n : Nat} {P Q : List (List Int)} (hn : P.flatten.length < n) (hlen : P.length = m) (hisp : IsP n P.flatten) :
    Ext m n P Q ↔ ∃ i k : Nat, i < m ∧ k < n ∧ (∀ x ∈ P.drop (i + 1), x = []) ∧ memI P.flatten (k : Int) = false ∧ Ext m n (P.set i (P.getD i [] ++ [(k : Int)])) Q := by
  constructor
  · rintro ⟨k, hP, hC⟩
    have : ∀ d k, m - k ≤ d → Part m n k P → Comp m n k P Q → ∃ i q : Nat, i < m ∧ q < n ∧ (∀ x ∈ P.drop (i + 1), x = []) ∧ memI P.flatten (q : Int) = false ∧ Ext m n (P.set i (P.getD i [] ++ [(q : Int)])) Q := by
      intro d
      induction d with
      | zero => intro k hd hP _; have := hP.km; omega
      | succ d ih =>
        intro k hd hP hC
        rcases comp_node hP hn hC with ⟨hk, h⟩ | ⟨i, hi, hm, h⟩
        · exact ih (k + 1) (by omega) (hP.next hk).1 h
        · exact ⟨k, i, hP.km, hi, hP.up, hm, k, hP.push hi hm, h⟩
    exact this m k (by omega) hP hC
  · rintro ⟨i, q, hi, hq, hup, hm, k, hP, hC⟩
    have hP0 : Part m n i P := ⟨hlen, hi, hisp, hup⟩
    have hil : i < P.length := by omega
    have hik : i ≤ k := by
      rcases Nat.lt_or_ge k i with h | h
      · exfalso
        have h1 := hP.up (P.getD i [] ++ [(q : Int)]) (by
          rw [List.mem_drop_iff_getElem]
          refine ⟨i - (k + 1), by rw [List.length_set]; omega, ?_⟩
          have e : k + 1 + (i - (k + 1)) = i := by omega
          simp only [e, List.getElem_set_self])
        simp at h1
      · exact h
    exact ⟨i, hP0, comp_push hP0 (comp_down hP.len hP.km hik hC)⟩

theorem ext_leaf {m n : Nat} {P Q : List (List Int)} (hn : P.flatten.length = n) (h : ∃ k, Part m n k P) : Ext m n P Q ↔ Q = P := by
  constructor
  · rintro ⟨k, hP, hC⟩
    exact (comp_leaf hP hn).1 hC
  · rintro rfl
    obtain ⟨k, hP⟩ := h
    exact ⟨k, hP, (comp_leaf hP hn).2 rfl⟩

theorem ext_start {m n : Nat} {Q : List (List Int)} (h0 : 0 < m) : Ext m n (List.replicate m []) Q ↔ IsPl m n Q := by
  constructor
  · rintro ⟨k, -, hC⟩
    exact hC.1
  · intro h
    have hf : (List.replicate m ([] : List Int)).flatten = [] := flat_nil fun x hx => List.eq_of_mem_replicate hx
    refine ⟨0, ⟨by simp, h0, by rw [hf]; exact ⟨List.nodup_nil, by simp⟩, fun x hx => ?_⟩, h, rfl, Q.getD 0 [], by simp [List.getD_eq_getElem?_getD, List.getElem?_replicate, h0]⟩
    rw [List.drop_replicate] at hx
    exact List.eq_of_mem_replicate hx
/-- the best plan of all -/
def BestP (p : List Prn) (j : List Jb) (ch : Int) (R : List (List Int)) : Prop := IsPl p.length j.length R ∧ ∀ Q, IsPl p.length j.length Q → Kle p j ch R Q

theorem BestP.uniq {p : List Prn} {j : List Jb} {ch : Int} {R S : List (List Int)} (h : BestP p j ch R) (k : BestP p j ch S) : R = S := (h.2 S k.1).anti (k.2 R h.1)

theorem best_of {p : List Prn} {j : List Jb} {ch : Int} {S : List (List Int) → Prop} {b' : Option (List (List Int))} (h0 : 0 < p.length) (hS : ∀ Q, S Q ↔ IsPl p.length j.length Q) (h : Bst p j ch S none b') : ∃ R, b' = some R ∧ BestP p j ch R := by
  obtain ⟨h1, h2, -⟩ := h
  obtain ⟨Q, hQ⟩ := isPl_some (n := j.length) h0
  obtain ⟨R, e, -⟩ := h2 Q ((hS Q).2 hQ)
  refine ⟨R, e, ?_, fun Q hQ => ?_⟩
  · rcases h1 with h1 | ⟨R', e', hR⟩
    · rw [h1] at e; cases e
    · rw [e] at e'
      injection e' with e'
      subst e'
      exact (hS R).1 hR
  · obtain ⟨R', e', hK⟩ := h2 Q ((hS Q).2 hQ)
    rw [e] at e'
    injection e' with e'
    subst e'
    exact hK

end Go.Proofs.YtanioobepfllgaaDoor

namespace Go.Proofs.YtanioobepfllgaaDoor
open Go Go.RowKit Go.Bl

def sumM (j : List Jb) (k : Nat) : Int := ((j.take k).map (·.min)).sum

def mostM (j : List Jb) (k : Nat) : Int := ((j.take k).map (·.min)).foldl max 0

def boundF (p : List Prn) (j : List Jb) : Int := max (mostM j j.length) ((sumM j j.length + p.length - 1) / p.length)

def boundT (p : List Prn) (j : List Jb) : Int := if farmF p j = 0 then boundF p j else 0

theorem farm_plen {p : List Prn} {j : List Jb} (h : farmF p j = 0) : 0 < p.length ∧ p.length ≤ 50 := by
  unfold farmF at h
  by_cases hz : prnsF p = 0
  · unfold prnsF at hz
    by_cases h1 : p.length = 0
    · rw [if_pos h1] at hz; cases hz
    · rw [if_neg h1] at hz
      by_cases h2 : 50 < p.length
      · rw [if_pos h2] at hz; cases hz
      · omega
  · rw [if_neg hz] at h; exact absurd h hz

end Go.Proofs.YtanioobepfllgaaDoor

namespace Go.Proofs.YtanioobepfllgaaDoor
open Go Go.RowKit Go.Bl

/-- the first least one -/
def minB (C : Nat → Int) : Nat → Nat
  | 0 => 0
  | n + 1 => if C n < C (minB C n) then n else minB C n

theorem minB_lt (C : Nat → Int) : ∀ n, minB C (n + 1) < n + 1
  | 0 => by unfold minB; split <;> simp [minB]
  | n + 1 => by
    have := minB_lt C n
    rw [show minB C (n + 1 + 1) = if C (n + 1) < C (minB C (n + 1)) then n + 1 else minB C (n + 1) from rfl]
    split <;> omega

theorem minB_in (C : Nat → Int) {n : Nat} (h : 0 < n) : minB C n < n := by
  obtain ⟨m, rfl⟩ : ∃ m, n = m + 1 := ⟨n - 1, by omega⟩
  exact minB_lt C m

section
variable (p : List Prn) (j : List Jb) (ch : Int)
/-- when a job would end on a printer -/
def greC (P : List (List Int)) (i k : Nat) : Int := (doC (clkR p j ch k P) (jobAt j (i : Int)) ch).1

def greB (P : List (List Int)) (i : Nat) : Nat := minB (greC p j ch P i) p.length

def greS (P : List (List Int)) (i : Nat) : List (List Int) := P.set (greB p j ch P i) (P.getD (greB p j ch P i) [] ++ [(i : Int)])

def greP : Nat → List (List Int)
  | 0 => List.replicate p.length []
  | i + 1 => greS p j ch (greP i) i

def greL : Nat → Int
  | 0 => 0
  | i + 1 => max (greL i) (greC p j ch (greP p j ch i) i (greB p j ch (greP p j ch i) i))
variable {p j ch}

theorem greP_len : ∀ i, (greP p j ch i).length = p.length
  | 0 => by simp [greP]
  | i + 1 => by
    show (greS p j ch (greP p j ch i) i).length = _
    unfold greS
    rw [List.length_set, greP_len i]

theorem set_perm {P : List (List Int)} {k : Nat} (h : k < P.length) (x : Int) : (P.set k (P.getD k [] ++ [x])).flatten.Perm (P.flatten ++ [x]) := by
  rw [set_split h]
  conv => rhs; rw [row_split h]
  rw [List.flatten_append, List.flatten_cons, List.flatten_append, List.flatten_cons]
  simp only [List.append_assoc]
  refine List.Perm.append_left _ (List.Perm.append_left _ ?_)
  exact List.perm_append_comm

theorem greP_isP (h0 : 0 < p.length) : ∀ i, IsP i (greP p j ch i).flatten ∧ (greP p j ch i).flatten.length = i
  | 0 => by
    have hf : (greP p j ch 0).flatten = [] := flat_nil fun x hx => List.eq_of_mem_replicate hx
    rw [hf]
    exact ⟨⟨List.nodup_nil, by simp⟩, rfl⟩
  | i + 1 => by
    obtain ⟨h1, h2⟩ := greP_isP h0 i
    have hb : greB p j ch (greP p j ch i) i < (greP p j ch i).length := by rw [greP_len]; exact minB_in _ h0
    have hp := set_perm hb (i : Int)
    show IsP (i + 1) (greS p j ch (greP p j ch i) i).flatten ∧ (greS p j ch (greP p j ch i) i).flatten.length = i + 1
    unfold greS
    refine ⟨⟨hp.nodup_iff.2 ?_, fun x hx => ?_⟩, by rw [hp.length_eq, List.length_append, h2]; rfl⟩
    · rw [List.nodup_append]
      refine ⟨h1.nd, by simp, fun a ha b hb e => ?_⟩
      rw [List.mem_singleton] at hb
      have := (h1.bd a ha).2
      omega
    · rw [hp.mem_iff, List.mem_append, List.mem_singleton] at hx
      rcases hx with hx | rfl
      · have := h1.bd x hx
        omega
      · omega

theorem greP_isPl (h0 : 0 < p.length) : IsPl p.length j.length (greP p j ch j.length) := ⟨greP_len _, (greP_isP h0 _).1, (greP_isP h0 _).2⟩

theorem lastO_nn (L : List (Int × Int)) : 0 ≤ lastO L := lastO_app [] L

theorem lastO_max : ∀ (M : List (Int × Int)) (x : Int), 0 ≤ x → M.foldl (fun a q => max a q.2) x = max x (lastO M)
  | [], x, hx => by
    show x = max x 0
    omega
  | q :: M, x, hx => by
    have e : lastO (q :: M) = M.foldl (fun a q => max a q.2) (max 0 q.2) := rfl
    rw [List.foldl_cons, e, lastO_max M (max x q.2) (by omega), lastO_max M (max 0 q.2) (by omega)]
    have := lastO_nn M
    omega

theorem lastO_join (L M : List (Int × Int)) : lastO (L ++ M) = max (lastO L) (lastO M) := by
  have h : lastO (L ++ M) = M.foldl (fun a q => max a q.2) (lastO L) := by unfold lastO; rw [List.foldl_append]
  rw [h, lastO_max M _ (lastO_nn L)]

theorem lastO_cons (q : Int × Int) (M : List (Int × Int)) : lastO (q :: M) = max (max 0 q.2) (lastO M) := lastO_join [q] M

theorem pairs_set {P : List (List Int)} {b : Nat} (hb : b < P.length) (i : Int) : ∀ k, lastO (pairsK p j (P.set b (P.getD b [] ++ [i])) ch k) = if b < k then max (lastO (pairsK p j P ch k)) (doC (clkR p j ch b P) (jobAt j i) ch).1 else lastO (pairsK p j P ch k)
  | 0 => rfl
  | k + 1 => by
    rw [pairsK_succ, pairsK_succ, lastO_join, lastO_join, pairs_set hb i k]
    by_cases e : b = k
    · subst e
      rw [if_neg (by omega), if_pos (by omega)]
      have h1 : rowP p j ch (P.set b (P.getD b [] ++ [i])) b = rowP p j ch P b ++ [(i, (doC (clkR p j ch b P) (jobAt j i) ch).1)] := by
        unfold rowP clkR
        rw [getD_setL hb, rowC_snoc]
      rw [h1, lastO_snoc]
      show max _ (max _ (doC (clkR p j ch b P) (jobAt j i) ch).1) = _
      omega
    · have h1 : rowP p j ch (P.set b (P.getD b [] ++ [i])) k = rowP p j ch P k := by
        unfold rowP
        have : (P.set b (P.getD b [] ++ [i])).getD k [] = P.getD k [] := by simp [List.getD_eq_getElem?_getD, List.getElem?_set_ne e]
        rw [this]
      rw [h1]
      by_cases h2 : b < k
      · rw [if_pos h2, if_pos (by omega)]; omega
      · rw [if_neg h2, if_neg (by omega)]

theorem greL_eq (h0 : 0 < p.length) : ∀ i, greL p j ch i = lstP p j ch (greP p j ch i)
  | 0 => by
    have h := pairsK_nil p j (Q := List.replicate p.length []) ch (k := 0) (fun x hx => List.eq_of_mem_replicate hx) p.length
    show 0 = lastO (pairsK p j (List.replicate p.length []) ch p.length)
    rw [Nat.zero_add] at h
    rw [h]
    rfl
  | i + 1 => by
    have hb : greB p j ch (greP p j ch i) i < (greP p j ch i).length := by rw [greP_len]; exact minB_in _ h0
    show max (greL p j ch i) _ = lastO (pairsK p j (greS p j ch (greP p j ch i) i) ch p.length)
    unfold greS
    rw [pairs_set hb, if_pos (show greB p j ch (greP p j ch i) i < p.length from minB_in _ h0), greL_eq h0 i]
    rfl

/-! ### the bound -/

end

end Go.Proofs.YtanioobepfllgaaDoor

namespace Go.Proofs.YtanioobepfllgaaDoor
open Go Go.RowKit Go.Bl

def eqT (l m : List ByteArray) : Bool := decide (l = m)

end Go.Proofs.YtanioobepfllgaaDoor
