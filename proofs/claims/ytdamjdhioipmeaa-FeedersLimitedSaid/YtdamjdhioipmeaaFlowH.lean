/- Contracts of functions that this seat's laws reach, each: what one call returns and what it leaves in memory; no condition beyond each theorem's own hypotheses. -/
import Derived.Test.YtdamjdhioipmeaaFlowG
import Derived.Test.YtdamjdhioipmeaaSlices
set_option linter.unusedVariables false
set_option linter.unusedSimpArgs false
namespace Go.Proofs.Ytdamjdhioipmeaa
open Go.RowKit Go.Bl

set_option maxHeartbeats 1000000 in
theorem fastestOf_any (A : Option Addr) (c : Nat) (l : List Bead) (fl : Int) (w : World) (hl : Sl w 0 A l) (hF : fastFault l fl = 0) :
    Calls Try.prog 36 #[.slice A l.length c, .int .i64 fl] w fun e w' => ∃ A' c', e = .returned (.slice A' (fastest l fl).length c') ∧ Own w' w.heap.size 3 A' c' (fastest l fl) ∧ w.grownBy w' none := by
  obtain ⟨h1, h2⟩ := orS_eq_zero hF
  obtain ⟨hm, hok⟩ := checkBeads_zero.1 h1
  have hfl := spanF_zero h2
  have hok := hide hok
  have HD : Hid (fastest l fl = fastTo l fl) := by simp only [Hid, fastest]; rw [if_neg (by simp [hF])]
  clear hF h1 h2
  obtain ⟨i0, hi, hz, h1, h2⟩ := info_parts info_int
  go_enter Try.func36, Try.ntmps36
  go_wp2_with fail
  go_loopw [5, 10] (fun o i wr => ∃ (k : Nat) (out : List Int) (A' : Option Addr) (c' : Nat), k ≤ l.length ∧ i = .int .i64 k ∧ o = .slice A' out.length c' ∧ Hid (out = fastTo (l.take k) fl) ∧ Own wr w.heap.size 3 A' c' out ∧ w.grownBy wr none) (fun _ i _ => l.length - (intOf i).toNat)
  case atStart => exact ⟨0, [], none, 0, Nat.zero_le _, rfl, rfl, rfl, Own.nil _ _ _, by first | assumption | exact World.grownBy.refl _ _⟩
  case round =>
    obtain ⟨k, out, A', c', hk, rfl, rfl, hout, hown, hg⟩ := hrel
    have hol : out.length = k := by rw [hout.out]; simp [fastTo]; omega
    by_cases hlt : k < l.length
    · obtain ⟨g, o, cx, rfl, hb0, hb1, rfl, hc⟩ := (hl.pure hg).at_ (by decide) hlt
      have c0 : wr.cell? ⟨g, o + k * 3, none⟩ = some (.int .i64 l[k].long) := hc 0 _ rfl
      have c1 : wr.cell? ⟨g, o + k * 3 + 1, none⟩ = some (.int .i64 l[k].wide) := hc 1 _ rfl
      have c2 : wr.cell? ⟨g, o + k * 3 + 2, none⟩ = some (.int .i64 l[k].high) := hc 2 _ rfl
      clear hc
      have hokk : okBead l[k] = true := by have := hok.out; rw [List.all_eq_true] at this; exact this _ (List.getElem_mem _)
      obtain ⟨hw0, hw1⟩ := wh_bd hokk
      have hw2 : wrap64 (l[k].wide * l[k].high) = l[k].wide * l[k].high := i64_in (by omega)
      have HS : Hid (out ++ [fl / (l[k].wide * l[k].high)] = fastTo (l.take (k + 1)) fl) := by simp only [Hid]; rw [take_snoc hlt, fastTo_snoc, hout.out]
      replace hol := hide hol
      clear hokk
      go_wp2_with (at_builtin; refine wpList_push (α := Int) _ rfl (.tmp 14) (.tmp 22) _ rfl w.heap.size 3 i0 _ 8 Try.underlying22 hi hz h1 h2 rfl _ _ _ out rfl ?c1 (by exact (hown.pure (by repeat (first | exact World.grownBy.refl _ _ | assumption | refine gr_alloc ?_ _ | refine gr_drewN ?_ _ | refine gr_drew ?_)))) 0 ⟨_, 0, none⟩ 1 1 [fl / (l[k].wide * l[k].high)] rfl rfl (by exact sl_int1 _ _ _ _ (by first | rfl | simp)) ?c2 ?c3 ?c4 ?_)
      case c1 => rfl
      case c2 => rw [hol.out]; simp; omega
      case c3 => rw [hol.out]; simp [maxLen]; omega
      case c4 => simp; have := hg.size; omega
      intro A2 c2 w2 hown2 hup2
      go_wp2
      go_roundw
      case rel => exact ⟨k + 1, _, A2, c2, by omega, by go_num, by simp, HS, hown2, hup2.gr (Nat.le_refl _) (gr_alloc (gr_alloc hg _) _)⟩
      case measure => simp [intOf]; omega
    · have hfin : out = fastTo l fl := by have := hout.out; rwa [List.take_of_length_le (by omega)] at this
      clear hol hout
      have hfin := hide hfin
      go_wp2
      (go_ret; exact ⟨A', c', by rw [HD.out, ← hfin.out]; rfl, by rw [HD.out, ← hfin.out]; exact hown, hg⟩)

set_option maxHeartbeats 1000000 in
theorem fastestGo_any (A : Option Addr) (c : Nat) (l : List Bead) (fl : Int) (w : World) (hl : Sl w 0 A l) :
    Calls Try.prog 27 #[.slice A l.length c, .int .i64 fl] w fun e w' => ∃ A' c', e = .returned (.tuple #[.slice A' (fastest l fl).length c', .int .i64 (fastFault l fl)]) ∧ Own w' w.heap.size 3 A' c' (fastest l fl) ∧ w.grownBy w' none := by
  by_cases h : checkBeads l = 0
  · have hb : (checkBeads l != 0) = false := by simp [h]
    rcases h3 : outB fl 1 1000000000000 with _ | _
    · have hF : fastFault l fl = 0 := by unfold fastFault; rw [orS_zero h]; simp [spanF, h3]
      obtain ⟨hm, hok⟩ := checkBeads_zero.1 h
      have hfl := outB_false h3
      have hok := hide hok
      have HD : Hid (fastest l fl = fastTo l fl) := by simp only [Hid, fastest]; rw [if_neg (by simp [hF])]
      have HF := hide hF
      clear hF h
      obtain ⟨i0, hi, hz, h1, h2⟩ := info_parts info_int
      go_enter Try.func27, Try.ntmps27
      go_wp2_with fail
      refine (checkBeads_any _ _ _ _ hl).mono ?_
      rintro e w1 ⟨rfl, hg1⟩
      go_wp2_with fail
      refine (outside_any _ _ _ _).mono ?_
      rintro e w2 ⟨rfl, rfl⟩
      go_wp2_with fail
      go_loopw [7, 19] (fun o i wr => ∃ (k : Nat) (out : List Int) (A' : Option Addr) (c' : Nat), k ≤ l.length ∧ i = .int .i64 k ∧ o = .slice A' out.length c' ∧ Hid (out = fastTo (l.take k) fl) ∧ Own wr w.heap.size 3 A' c' out ∧ w.grownBy wr none) (fun _ i _ => l.length - (intOf i).toNat)
      case atStart => exact ⟨0, [], none, 0, Nat.zero_le _, rfl, rfl, rfl, Own.nil _ _ _, by first | assumption | exact World.grownBy.refl _ _⟩
      case round =>
        obtain ⟨k, out, A', c', hk, rfl, rfl, hout, hown, hg⟩ := hrel
        have hol : out.length = k := by rw [hout.out]; simp [fastTo]; omega
        by_cases hlt : k < l.length
        · obtain ⟨g, o, cx, rfl, hb0, hb1, rfl, hc⟩ := (hl.pure hg).at_ (by decide) hlt
          have c0 : wr.cell? ⟨g, o + k * 3, none⟩ = some (.int .i64 l[k].long) := hc 0 _ rfl
          have c1 : wr.cell? ⟨g, o + k * 3 + 1, none⟩ = some (.int .i64 l[k].wide) := hc 1 _ rfl
          have c2 : wr.cell? ⟨g, o + k * 3 + 2, none⟩ = some (.int .i64 l[k].high) := hc 2 _ rfl
          clear hc
          have hokk : okBead l[k] = true := by have := hok.out; rw [List.all_eq_true] at this; exact this _ (List.getElem_mem _)
          obtain ⟨hw0, hw1⟩ := wh_bd hokk
          have hw2 : wrap64 (l[k].wide * l[k].high) = l[k].wide * l[k].high := i64_in (by omega)
          have HS : Hid (out ++ [fl / (l[k].wide * l[k].high)] = fastTo (l.take (k + 1)) fl) := by simp only [Hid]; rw [take_snoc hlt, fastTo_snoc, hout.out]
          replace hol := hide hol
          clear hokk
          go_wp2_with (at_builtin; refine wpList_push (α := Int) _ rfl (.tmp 23) (.tmp 31) _ rfl w.heap.size 3 i0 _ 8 Try.underlying22 hi hz h1 h2 rfl _ _ _ out rfl ?c1 (by exact (hown.pure (by repeat (first | exact World.grownBy.refl _ _ | assumption | refine gr_alloc ?_ _ | refine gr_drewN ?_ _ | refine gr_drew ?_)))) 0 ⟨_, 0, none⟩ 1 1 [fl / (l[k].wide * l[k].high)] rfl rfl (by exact sl_int1 _ _ _ _ (by first | rfl | simp)) ?c2 ?c3 ?c4 ?_)
          case c1 => rfl
          case c2 => rw [hol.out]; simp; omega
          case c3 => rw [hol.out]; simp [maxLen]; omega
          case c4 => simp; have := hg.size; omega
          intro A2 c2 w2 hown2 hup2
          go_wp2
          go_roundw
          case rel => exact ⟨k + 1, _, A2, c2, by omega, by go_num, by simp, HS, hown2, hup2.gr (Nat.le_refl _) (gr_alloc (gr_alloc hg _) _)⟩
          case measure => simp [intOf]; omega
        · have hfin : out = fastTo l fl := by have := hout.out; rwa [List.take_of_length_le (by omega)] at this
          clear hol hout
          have hfin := hide hfin
          go_wp2
          (go_ret2; exact ⟨A', c', by rw [HD.out, ← hfin.out, HF.out]; rfl, by rw [HD.out, ← hfin.out]; exact hown, hg⟩)
    · have hF : fastFault l fl = 1 := by unfold fastFault; rw [orS_zero h]; simp [spanF, h3]
      have HD : Hid (fastest l fl = []) := by simp only [Hid, fastest]; rw [if_pos (by simp [hF])]
      have HF := hide hF
      clear hF h
      go_enter Try.func27, Try.ntmps27
      go_wp2_with fail
      refine (checkBeads_any _ _ _ _ hl).mono ?_
      rintro e w1 ⟨rfl, hg1⟩
      go_wp2_with fail
      refine (outside_any _ _ _ _).mono ?_
      rintro e w2 ⟨rfl, rfl⟩
      go_wp2_with fail
      go_ret2
      exact ⟨none, 0, by rw [HD.out, HF.out]; rfl, by rw [HD.out]; exact Own.nil _ _ _, hg1⟩
  · have hb : (checkBeads l != 0) = true := by simp [h]
    have hF : fastFault l fl = checkBeads l := by unfold fastFault; rw [orS_ne h]
    have HD : Hid (fastest l fl = []) := by simp only [Hid, fastest]; rw [if_pos (by rw [hF]; exact h)]
    have HF := hide hF
    clear hF h
    go_enter Try.func27, Try.ntmps27
    go_wp2_with fail
    refine (checkBeads_any _ _ _ _ hl).mono ?_
    rintro e w1 ⟨rfl, hg1⟩
    go_wp2_with fail
    go_ret2
    exact ⟨none, 0, by rw [HD.out, HF.out]; rfl, by rw [HD.out]; exact Own.nil _ _ _, hg1⟩

set_option maxHeartbeats 1000000 in
theorem backFault_any (A : Option Addr) (c : Nat) (l : List Bead) (back : Int) (B : Option Addr) (d : Nat) (at_ : List Int) (W : World) (hB : Sl W 0 B at_) (hll : l.length ≤ 1000000) :
    Calls Try.prog 34 #[.slice A l.length c, .int .i64 back, .slice B at_.length d] W fun e w' => e = .returned (.int .i64 (backF l.length back at_)) ∧ W = w' := by
  have hm := hB.1
  unfold maxLen at hm
  rcases h1 : outB back 1 5000 with _ | _
  · have hs : spanF back 1 5000 = 0 := by simp [spanF, h1]
    by_cases h2 : 5000 < at_.length
    · have HF : Hid (2 = backF l.length back at_) := by simp [Hid, backF, h1, h2]
      go_enter Try.func34, Try.ntmps34
      go_wp2_with (go_at_call 31; refine (spanFault_any _ _ _ _).mono ?_; rintro e w' ⟨rfl, rfl⟩; rw [hs])
      go_ret
      exact ⟨ret_int HF.out, rfl⟩
    · have HF : Hid (scanP l.length none at_ = backF l.length back at_) := by simp [Hid, backF, h1, h2]
      go_enter Try.func34, Try.ntmps34
      go_wp2_with (go_at_call 31; refine (spanFault_any _ _ _ _).mono ?_; rintro e w' ⟨rfl, rfl⟩; rw [hs])
      go_loop [20] (fun i => ∃ k : Nat, k ≤ at_.length ∧ i = .int .i64 k ∧ Hid (scanP (l.length : Int) (prevAt at_ k) (at_.drop k) = scanP (l.length : Int) none at_)) (fun i => at_.length - (intOf i).toNat)
      case atStart => exact ⟨0, Nat.zero_le _, rfl, rfl⟩
      case round =>
        obtain ⟨k, hk, rfl, hsc⟩ := hrel
        obtain ⟨wr, hwr⟩ : ∃ wr : World, wr = W := ⟨_, rfl⟩
        subst hwr
        by_cases hlt : k < at_.length
        · obtain ⟨g, o, cx, rfl, hb0, hb1, rfl, hc⟩ := (hB).at_ (by decide) hlt
          have c0 : wr.cell? ⟨g, o + k, none⟩ = some (.int .i64 at_[k]) := by have := hc 0 _ rfl; rwa [show Enc.sz Int = 1 from rfl, Nat.mul_one] at this
          clear hc
          have hd := scan_drop (nb := l.length) hlt
          rw [hsc.out] at hd
          rcases ho : inB at_[k] 0 ((l.length : Int) - 1) with _ | _
          · have HS : Hid (1 = backF l.length back at_) := by
              rw [← HF.out, hd, if_pos (by rw [← inB_not, ho]; rfl)]; exact rfl
            clear hd
            go_wp2_with (go_at_call 43; refine (in_any _ _ _ _).mono ?_; rintro e w' ⟨rfl, rfl⟩)
            go_ret
            exact ⟨ret_int HS.out, rfl⟩
          · rw [if_neg (by rw [← inB_not, ho]; simp)] at hd
            rcases k with _ | j
            · rw [if_neg (by simp [prevAt, leO])] at hd
              rw [Nat.add_zero] at c0
              replace hd := hide hd.symm
              go_wp2_with (go_at_call 43; refine (in_any _ _ _ _).mono ?_; rintro e w' ⟨rfl, rfl⟩)
              go_round
              case rel => exact ⟨1, by omega, by go_num, hd⟩
              case measure => simp [intOf]; omega
            · have hj : j < at_.length := by omega
              have hc1 : wr.cell? ⟨g, o + j, none⟩ = some (.int .i64 at_[j]) := by
                obtain ⟨g', o', cx, e, _, _, rfl, hc⟩ := hB.at_ (by decide) hj
                injection e with e
                injection e with e1 e2
                subst e1
                subst e2
                have := hc 0 _ rfl
                rwa [show Enc.sz Int = 1 from rfl, Nat.mul_one] at this
              have hpv : prevAt at_ (j + 1) = some at_[j] := by simp [prevAt, hj]
              by_cases hle : at_[j + 1] ≤ at_[j]
              · rw [if_pos (by rw [hpv]; simp [leO, hle])] at hd
                have HS : Hid (7 = backF l.length back at_) := by rw [← HF.out, hd]; exact rfl
                clear hd hpv
                go_wp2_with (go_at_call 43; refine (in_any _ _ _ _).mono ?_; rintro e w' ⟨rfl, rfl⟩)
                go_ret
                exact ⟨ret_int HS.out, rfl⟩
              · rw [if_neg (by rw [hpv]; simp [leO]; omega)] at hd
                replace hd := hide hd.symm
                have hle' : at_[j] < at_[j + 1] := by omega
                clear hpv hle
                go_wp2_with (go_at_call 43; refine (in_any _ _ _ _).mono ?_; rintro e w' ⟨rfl, rfl⟩)
                go_round
                case rel => exact ⟨j + 1 + 1, by omega, by go_num, hd⟩
                case measure => simp [intOf]; omega
        · have HS : Hid (0 = backF l.length back at_) := by
            rw [← HF.out, ← hsc.out, List.drop_of_length_le (by omega)]; exact rfl
          go_wp2
          go_ret
          exact ⟨ret_int HS.out, rfl⟩
  · have hs : spanF back 1 5000 = 1 := by simp [spanF, h1]
    have HF : Hid (1 = backF l.length back at_) := by simp [Hid, backF, h1]
    go_enter Try.func34, Try.ntmps34
    go_wp2_with (go_at_call 31; refine (spanFault_any _ _ _ _).mono ?_; rintro e w' ⟨rfl, rfl⟩; rw [hs])
    go_ret
    exact ⟨ret_int HF.out, rfl⟩

set_option maxHeartbeats 2000000 in
theorem retractedOf_any (A : Option Addr) (c : Nat) (l : List Bead) (area back : Int) (B : Option Addr) (d : Nat) (at_ : List Int) (w : World) (hl : Sl w 0 A l) (hcap : l.length ≤ c) (hB : Sl w 0 B at_) (hF : retrFault l area back at_ = 0) :
    Calls Try.prog 35 #[.slice A l.length c, .int .i64 area, .int .i64 back, .slice B at_.length d] w fun e w' => ∃ A' c', e = .returned (.slice A' (retracted l area back at_).length c') ∧ Own w' w.heap.size 3 A' c' (retracted l area back at_) ∧ w.grownBy w' none := by
  obtain ⟨hFa, hFb⟩ := orS_eq_zero hF
  obtain ⟨hback, hal, _⟩ := backF_zero hFb
  have hll := (areaFault_zero hFa).1
  have hM5 : (amounts l area).length ≤ 5000 := by rw [amounts_len hFa]; exact hll
  have HD : Hid (retracted l area back at_ = retrTo (amounts l area) at_ back (amounts l area).length) := by simp only [Hid, retracted]; rw [if_neg (by simp [hF])]
  have HFa := hide hFa
  clear hF hFa hFb
  obtain ⟨i0, hi, hz, h1, h2⟩ := info_parts info_int
  go_enter Try.func35, Try.ntmps35
  go_wp2_with fail
  refine (amountsOf_any _ _ _ _ _ hl hcap HFa.out).mono ?_
  rintro e w1 ⟨A1, c1, rfl, hM, hg1⟩
  replace hM := hM.sl.mono (Nat.zero_le _)
  have hB1 := hB.pure hg1
  have hsz := hg1.size
  generalize amounts l area = M at *
  go_wp2_with fail
  have hneg : wrap64 (-back) = -back := i64_in (by omega)
  go_loopw [9, 16] (fun o i wr => ∃ (k : Nat) (out : List Int) (A' : Option Addr) (c' : Nat), k ≤ M.length ∧ i = .int .i64 k ∧ o = .slice A' out.length c' ∧ Hid (out = retrTo M at_ back k) ∧ Own wr w1.heap.size 3 A' c' out ∧ w1.grownBy wr none) (fun _ i _ => M.length - (intOf i).toNat)
  case atStart => exact ⟨0, [], none, 0, Nat.zero_le _, rfl, rfl, rfl, Own.nil _ _ _, World.grownBy.refl _ _⟩
  case round =>
    obtain ⟨k, out, A', c', hk, rfl, rfl, hout, hown, hg⟩ := hrel
    have hol : out.length ≤ 3 * k := by rw [hout.out]; exact retrTo_len _ _ _ _
    have hsz1 := hg.size
    by_cases hlt : k < M.length
    · obtain ⟨g, o, cx, rfl, hb0, hb1, rfl, hc⟩ := (hM.pure hg).at_ (by decide) hlt
      have c0 : wr.cell? ⟨g, o + k, none⟩ = some (.int .i64 M[k]) := by have := hc 0 _ rfl; rwa [show Enc.sz Int = 1 from rfl, Nat.mul_one] at this
      clear hc
      rcases hmem : memB at_ k with _ | _
      · have HS : Hid (out ++ [M[k]] = retrTo M at_ back (k + 1)) := by simp only [Hid]; rw [retrTo_succ, retrOne_no hlt hmem, hout.out]
        go_wp2_with fail
        (refine (containsInt_any _ _ _ _ _ (hB1.pure hg)).mono ?_; rintro e wc ⟨rfl, rfl⟩; rw [hmem]; have hgc := World.grownBy.refl wr none)
        have hownc := hown.pure hgc
        have hgg := hg.t hgc
        have hsz2 := hgg.size
        go_wp2_with (at_builtin; refine wpList_push (α := Int) _ rfl (.tmp 30) (.tmp 32) _ rfl w1.heap.size 3 i0 _ 8 Try.underlying22 hi hz h1 h2 rfl _ _ _ out rfl ?c1 (by exact (hownc.pure (by repeat (first | exact World.grownBy.refl _ _ | assumption | refine gr_alloc ?_ _ | refine gr_drewN ?_ _ | refine gr_drew ?_)))) 0 ⟨_, 0, none⟩ 1 1 [M[k]] rfl rfl (by exact sl_int1 _ _ _ _ (by first | rfl | simp)) ?c2 ?c3 ?c4 ?_)
        case c1 => rfl
        case c2 => simp; omega
        case c3 => simp [maxLen]; omega
        case c4 => simp; omega
        intro A2 c2 w2 hown2 hup2
        go_wp2
        go_roundw
        case rel => exact ⟨k + 1, _, A2, c2, by omega, by go_num, by simp, HS, hown2, hup2.gr (Nat.le_refl _) (gr_alloc hgg _)⟩
        case measure => simp [intOf]; omega
      · have HS : Hid (out ++ [-back, back, M[k]] = retrTo M at_ back (k + 1)) := by simp only [Hid]; rw [retrTo_succ, retrOne_yes hlt hmem, hout.out]; simp
        go_wp2_with fail
        (refine (containsInt_any _ _ _ _ _ (hB1.pure hg)).mono ?_; rintro e wc ⟨rfl, rfl⟩; rw [hmem]; have hgc := World.grownBy.refl wr none)
        have hownc := hown.pure hgc
        have hgg := hg.t hgc
        have hsz2 := hgg.size
        go_wp2_with (at_builtin; refine wpList_push (α := Int) _ rfl (.tmp 24) (.tmp 28) _ rfl w1.heap.size 3 i0 _ 8 Try.underlying22 hi hz h1 h2 rfl _ _ _ out rfl ?c1 (by exact (hownc.pure (by repeat (first | exact World.grownBy.refl _ _ | assumption | refine gr_alloc ?_ _ | refine gr_drewN ?_ _ | refine gr_drew ?_)))) 0 ⟨_, 0, none⟩ _ _ [-back, back] rfl rfl (by exact sl_intsAt _ 0 _ [-back, back] _ (by first | rfl | simp) (Nat.zero_le _) (by simp [maxLen])) ?c2 ?c3 ?c4 ?_)
        case c1 => rfl
        case c2 => simp; omega
        case c3 => simp [maxLen]; omega
        case c4 => simp; omega
        intro A2 c2 w2 hown2 hup2
        have hg2 := hup2.gr (Nat.le_refl _) (gr_alloc hgg _)
        have hsz3 := hg2.size
        go_wp2_with (at_builtin; refine wpList_push (α := Int) _ rfl (.tmp 30) (.tmp 32) _ rfl w1.heap.size 3 i0 _ 8 Try.underlying22 hi hz h1 h2 rfl _ _ _ (out ++ [-back, back]) rfl ?c1 (by exact (hown2.pure (by repeat (first | exact World.grownBy.refl _ _ | assumption | refine gr_alloc ?_ _ | refine gr_drewN ?_ _ | refine gr_drew ?_)))) 0 ⟨_, 0, none⟩ 1 1 [M[k]] rfl rfl (by exact sl_int1 _ _ _ _ (by first | rfl | simp)) ?c2 ?c3 ?c4 ?_)
        case c1 => simp
        case c2 => simp; omega
        case c3 => simp [maxLen]; omega
        case c4 => simp; omega
        intro A3 c3 w3 hown3 hup3
        go_wp2
        go_roundw
        case rel => exact ⟨k + 1, _, A3, c3, by omega, by go_num, by simp, HS, hown3, hup3.gr (Nat.le_refl _) (gr_alloc hg2 _)⟩
        case measure => simp [intOf]; omega
    · have hkl : k = M.length := by omega
      subst hkl
      go_wp2
      (go_ret; exact ⟨A', c', by rw [HD.out, ← hout.out]; rfl, by rw [HD.out, ← hout.out]; exact hown.lower hsz, hg1.t hg⟩)

set_option maxHeartbeats 4000000 in
theorem retracted_any (A : Option Addr) (c : Nat) (l : List Bead) (area back : Int) (B : Option Addr) (d : Nat) (at_ : List Int) (w : World) (hl : Sl w 0 A l) (hll : l.length ≤ 1000000) (hB : Sl w 0 B at_) :
    Calls Try.prog 26 #[.slice A l.length c, .int .i64 area, .int .i64 back, .slice B at_.length d] w fun e w' => ∃ A' c', e = .returned (.tuple #[.slice A' (retracted l area back at_).length c', .int .i64 (retrFault l area back at_)]) ∧ Own w' w.heap.size 3 A' c' (retracted l area back at_) ∧ w.grownBy w' none := by
  have hm := hB.1
  unfold maxLen at hm
  by_cases hFa : areaFault l area = 0
  · have hb : (areaFault l area != 0) = false := by simp [hFa]
    have hFr : Hid (retrFault l area back at_ = backF l.length back at_) := by simp only [Hid, retrFault]; rw [orS_zero hFa]
    have hM5 : (amounts l area).length ≤ 5000 := by rw [amounts_len hFa]; exact (areaFault_zero hFa).1
    clear hFa
    by_cases hFb : backF l.length back at_ = 0
    · obtain ⟨hback, hal, hup⟩ := backF_zero hFb
      have ho1 : outB back 1 5000 = false := by unfold outB; simp; omega
      have hsc0 : Hid (scanP (l.length : Int) none at_ = 0) := by have := hFb; unfold backF at this; rw [ho1, if_neg (by simp), if_neg (by omega)] at this; exact this
      have HF : Hid (retrFault l area back at_ = 0) := hFr.out.trans hFb
      have HD : Hid (retracted l area back at_ = retrTo (amounts l area) at_ back (amounts l area).length) := by simp only [Hid, retracted]; rw [if_neg (by rw [HF.out]; simp)]
      replace hup := hide hup
      clear hFb hFr
      obtain ⟨i0, hi, hz, h1, h2⟩ := info_parts info_int
      go_enter Try.func26, Try.ntmps26
      go_wp2_with fail
      refine (amounts_any _ _ _ _ _ hl).mono ?_
      rintro e w1 ⟨A1, c1, rfl, hM, hg1⟩
      replace hM := hM.sl.mono (Nat.zero_le _)
      have hB1 := hB.pure hg1
      have hsz := hg1.size
      generalize amounts l area = M at *
      go_wp2_with fail
      refine (outside_any _ _ _ _).mono ?_
      rintro e w' ⟨rfl, rfl⟩
      rw [ho1]
      go_wp2_with fail
      go_loop [35] (fun i => ∃ k : Nat, k ≤ at_.length ∧ i = .int .i64 k ∧ Hid (scanP (l.length : Int) (prevAt at_ k) (at_.drop k) = 0)) (fun i => at_.length - (intOf i).toNat)
      case atStart => exact ⟨0, Nat.zero_le _, rfl, hsc0⟩
      case round =>
        obtain ⟨k, hk, rfl, hsc⟩ := hrel
        by_cases hlt : k < at_.length
        · obtain ⟨wr, hwr⟩ : ∃ wr : World, wr = w1 := ⟨_, rfl⟩
          subst hwr
          obtain ⟨g, o, cx, rfl, hb0, hb1, rfl, hc⟩ := (hB1).at_ (by decide) hlt
          have c0 : wr.cell? ⟨g, o + k, none⟩ = some (.int .i64 at_[k]) := by have := hc 0 _ rfl; rwa [show Enc.sz Int = 1 from rfl, Nat.mul_one] at this
          clear hc
          have hd := scan_drop (nb := l.length) hlt
          rw [hsc.out] at hd
          rcases ho : outB at_[k] 0 ((l.length : Int) - 1) with _ | _
          · rw [if_neg (by rw [ho]; simp)] at hd
            have hrange := outB_false ho
            have hr0 : 0 ≤ at_[k] := hrange.1
            have hr1 : at_[k] < (l.length : Int) := by omega
            clear hrange ho
            rcases k with _ | j
            · rw [if_neg (by simp [prevAt, leO])] at hd
              rw [Nat.add_zero] at c0
              replace hd := hide hd.symm
              go_wp2
              go_round
              case rel => exact ⟨1, by omega, by go_num, hd⟩
              case measure => simp [intOf]; omega
            · have hj : j < at_.length := by omega
              have hc1 : wr.cell? ⟨g, o + j, none⟩ = some (.int .i64 at_[j]) := by
                obtain ⟨g', o', cx, e, _, _, rfl, hc⟩ := hB1.at_ (by decide) hj
                injection e with e
                injection e with e1 e2
                subst e1
                subst e2
                have := hc 0 _ rfl
                rwa [show Enc.sz Int = 1 from rfl, Nat.mul_one] at this
              have hpv : prevAt at_ (j + 1) = some at_[j] := by simp [prevAt, hj]
              by_cases hle : at_[j + 1] ≤ at_[j]
              · rw [if_pos (by rw [hpv]; simp [leO, hle])] at hd
                cases hd
              · rw [if_neg (by rw [hpv]; simp [leO]; omega)] at hd
                replace hd := hide hd.symm
                have hle' : at_[j] < at_[j + 1] := by omega
                clear hpv hle
                go_wp2
                go_round
                case rel => exact ⟨j + 1 + 1, by omega, by go_num, hd⟩
                case measure => simp [intOf]; omega
          · rw [if_pos (by rw [ho])] at hd
            cases hd
        · go_wp2_with fail
          have hneg : wrap64 (-back) = -back := i64_in (by omega)
          go_loopw [14, 62] (fun o i wr => ∃ (k : Nat) (out : List Int) (A' : Option Addr) (c' : Nat), k ≤ M.length ∧ i = .int .i64 k ∧ o = .slice A' out.length c' ∧ Hid (out = retrTo M at_ back k) ∧ Own wr w1.heap.size 3 A' c' out ∧ w1.grownBy wr none) (fun _ i _ => M.length - (intOf i).toNat)
          case atStart => exact ⟨0, [], none, 0, Nat.zero_le _, rfl, rfl, rfl, Own.nil _ _ _, World.grownBy.refl _ _⟩
          case round =>
            obtain ⟨k, out, A', c', hk, rfl, rfl, hout, hown, hg⟩ := hrel
            have hol : out.length ≤ 3 * k := by rw [hout.out]; exact retrTo_len _ _ _ _
            have hsz1 := hg.size
            by_cases hlt : k < M.length
            · obtain ⟨g, o, cx, rfl, hb0, hb1, rfl, hc⟩ := (hM.pure hg).at_ (by decide) hlt
              have c0 : wr.cell? ⟨g, o + k, none⟩ = some (.int .i64 M[k]) := by have := hc 0 _ rfl; rwa [show Enc.sz Int = 1 from rfl, Nat.mul_one] at this
              clear hc
              rcases hmem : memB at_ k with _ | _
              · have HS : Hid (out ++ [M[k]] = retrTo M at_ back (k + 1)) := by simp only [Hid]; rw [retrTo_succ, retrOne_no hlt hmem, hout.out]
                go_wp2_with fail
                (refine (binSearchInt_any _ _ _ _ _ (hB1.pure hg) hup.out (by omega)).mono ?_; rintro e wc ⟨rI, rfl, hgc⟩; rw [hmem])
                have hownc := hown.pure hgc
                have hgg := hg.t hgc
                have hsz2 := hgg.size
                go_wp2_with (at_builtin; refine wpList_push (α := Int) _ rfl (.tmp 80) (.tmp 82) _ rfl w1.heap.size 3 i0 _ 8 Try.underlying22 hi hz h1 h2 rfl _ _ _ out rfl ?c1 (by exact (hownc.pure (by repeat (first | exact World.grownBy.refl _ _ | assumption | refine gr_alloc ?_ _ | refine gr_drewN ?_ _ | refine gr_drew ?_)))) 0 ⟨_, 0, none⟩ 1 1 [M[k]] rfl rfl (by exact sl_int1 _ _ _ _ (by first | rfl | simp)) ?c2 ?c3 ?c4 ?_)
                case c1 => rfl
                case c2 => simp; omega
                case c3 => simp [maxLen]; omega
                case c4 => simp; omega
                intro A2 c2 w2 hown2 hup2
                go_wp2
                go_roundw
                case rel => exact ⟨k + 1, _, A2, c2, by omega, by go_num, by simp, HS, hown2, hup2.gr (Nat.le_refl _) (gr_alloc hgg _)⟩
                case measure => simp [intOf]; omega
              · have HS : Hid (out ++ [-back, back, M[k]] = retrTo M at_ back (k + 1)) := by simp only [Hid]; rw [retrTo_succ, retrOne_yes hlt hmem, hout.out]; simp
                go_wp2_with fail
                (refine (binSearchInt_any _ _ _ _ _ (hB1.pure hg) hup.out (by omega)).mono ?_; rintro e wc ⟨rI, rfl, hgc⟩; rw [hmem])
                have hownc := hown.pure hgc
                have hgg := hg.t hgc
                have hsz2 := hgg.size
                go_wp2_with (at_builtin; refine wpList_push (α := Int) _ rfl (.tmp 74) (.tmp 78) _ rfl w1.heap.size 3 i0 _ 8 Try.underlying22 hi hz h1 h2 rfl _ _ _ out rfl ?c1 (by exact (hownc.pure (by repeat (first | exact World.grownBy.refl _ _ | assumption | refine gr_alloc ?_ _ | refine gr_drewN ?_ _ | refine gr_drew ?_)))) 0 ⟨_, 0, none⟩ _ _ [-back, back] rfl rfl (by exact sl_intsAt _ 0 _ [-back, back] _ (by first | rfl | simp) (Nat.zero_le _) (by simp [maxLen])) ?c2 ?c3 ?c4 ?_)
                case c1 => rfl
                case c2 => simp; omega
                case c3 => simp [maxLen]; omega
                case c4 => simp; omega
                intro A2 c2 w2 hown2 hup2
                have hg2 := hup2.gr (Nat.le_refl _) (gr_alloc hgg _)
                have hsz3 := hg2.size
                go_wp2_with (at_builtin; refine wpList_push (α := Int) _ rfl (.tmp 80) (.tmp 82) _ rfl w1.heap.size 3 i0 _ 8 Try.underlying22 hi hz h1 h2 rfl _ _ _ (out ++ [-back, back]) rfl ?c1 (by exact (hown2.pure (by repeat (first | exact World.grownBy.refl _ _ | assumption | refine gr_alloc ?_ _ | refine gr_drewN ?_ _ | refine gr_drew ?_)))) 0 ⟨_, 0, none⟩ 1 1 [M[k]] rfl rfl (by exact sl_int1 _ _ _ _ (by first | rfl | simp)) ?c2 ?c3 ?c4 ?_)
                case c1 => simp
                case c2 => simp; omega
                case c3 => simp [maxLen]; omega
                case c4 => simp; omega
                intro A3 c3 w3 hown3 hup3
                go_wp2
                go_roundw
                case rel => exact ⟨k + 1, _, A3, c3, by omega, by go_num, by simp, HS, hown3, hup3.gr (Nat.le_refl _) (gr_alloc hg2 _)⟩
                case measure => simp [intOf]; omega
            · have hkl : k = M.length := by omega
              subst hkl
              go_wp2
              (go_ret2; exact ⟨A', c', by rw [HD.out, ← hout.out, HF.out]; rfl, by rw [HD.out, ← hout.out]; exact hown.lower hsz, hg1.t hg⟩)
    · have HD : Hid (retracted l area back at_ = []) := by simp only [Hid, retracted]; rw [if_pos (by rw [hFr.out]; exact hFb)]
      rcases ho1 : outB back 1 5000 with _ | _
      · by_cases h5 : 5000 < at_.length
        · have HF : Hid (2 = retrFault l area back at_) := by rw [hFr.out]; simp [Hid, backF, ho1, h5]
          clear hFb hFr
          go_enter Try.func26, Try.ntmps26
          go_wp2_with fail
          refine (amounts_any _ _ _ _ _ hl).mono ?_
          rintro e w1 ⟨A1, c1, rfl, hM, hg1⟩
          go_wp2_with fail
          refine (outside_any _ _ _ _).mono ?_
          rintro e w' ⟨rfl, rfl⟩
          rw [ho1]
          go_wp2_with fail
          go_ret2
          exact ⟨none, 0, by rw [HD.out, ← (HF.out)]; rfl, by rw [HD.out]; exact Own.nil _ _ _, hg1⟩
        · have HF : Hid (scanP (l.length : Int) none at_ = retrFault l area back at_) := by rw [hFr.out]; simp [Hid, backF, ho1, h5]
          have hne : Hid (scanP (l.length : Int) none at_ ≠ 0) := by rw [HF.out, hFr.out]; exact hFb
          clear hFb hFr
          go_enter Try.func26, Try.ntmps26
          go_wp2_with fail
          refine (amounts_any _ _ _ _ _ hl).mono ?_
          rintro e w1 ⟨A1, c1, rfl, hM, hg1⟩
          have hB1 := hB.pure hg1
          go_wp2_with fail
          refine (outside_any _ _ _ _).mono ?_
          rintro e w' ⟨rfl, rfl⟩
          rw [ho1]
          go_wp2_with fail
          go_loop [35] (fun i => ∃ k : Nat, k ≤ at_.length ∧ i = .int .i64 k ∧ Hid (scanP (l.length : Int) (prevAt at_ k) (at_.drop k) = scanP (l.length : Int) none at_)) (fun i => at_.length - (intOf i).toNat)
          case atStart => exact ⟨0, Nat.zero_le _, rfl, rfl⟩
          case round =>
            obtain ⟨k, hk, rfl, hsc⟩ := hrel
            obtain ⟨wr, hwr⟩ : ∃ wr : World, wr = w1 := ⟨_, rfl⟩
            subst hwr
            by_cases hlt : k < at_.length
            · obtain ⟨g, o, cx, rfl, hb0, hb1, rfl, hc⟩ := (hB1).at_ (by decide) hlt
              have c0 : wr.cell? ⟨g, o + k, none⟩ = some (.int .i64 at_[k]) := by have := hc 0 _ rfl; rwa [show Enc.sz Int = 1 from rfl, Nat.mul_one] at this
              clear hc
              have hd := scan_drop (nb := l.length) hlt
              rw [hsc.out] at hd
              rcases ho : outB at_[k] 0 ((l.length : Int) - 1) with _ | _
              · rw [if_neg (by rw [ho]; simp)] at hd
                have hrange := outB_false ho
                have hr0 : 0 ≤ at_[k] := hrange.1
                have hr1 : at_[k] < (l.length : Int) := by omega
                clear hrange ho
                rcases k with _ | j
                · rw [if_neg (by simp [prevAt, leO])] at hd
                  rw [Nat.add_zero] at c0
                  replace hd := hide hd.symm
                  go_wp2
                  go_round
                  case rel => exact ⟨1, by omega, by go_num, hd⟩
                  case measure => simp [intOf]; omega
                · have hj : j < at_.length := by omega
                  have hc1 : wr.cell? ⟨g, o + j, none⟩ = some (.int .i64 at_[j]) := by
                    obtain ⟨g', o', cx, e, _, _, rfl, hc⟩ := hB1.at_ (by decide) hj
                    injection e with e
                    injection e with e1 e2
                    subst e1
                    subst e2
                    have := hc 0 _ rfl
                    rwa [show Enc.sz Int = 1 from rfl, Nat.mul_one] at this
                  have hpv : prevAt at_ (j + 1) = some at_[j] := by simp [prevAt, hj]
                  by_cases hle : at_[j + 1] ≤ at_[j]
                  · rw [if_pos (by rw [hpv]; simp [leO, hle])] at hd
                    have HS : Hid (7 = retrFault l area back at_) := by rw [← HF.out, hd]; exact rfl
                    clear hd hpv
                    go_wp2
                    go_ret2
                    exact ⟨none, 0, by rw [HD.out, ← (HS.out)]; rfl, by rw [HD.out]; exact Own.nil _ _ _, hg1⟩
                  · rw [if_neg (by rw [hpv]; simp [leO]; omega)] at hd
                    replace hd := hide hd.symm
                    have hle' : at_[j] < at_[j + 1] := by omega
                    clear hpv hle
                    go_wp2
                    go_round
                    case rel => exact ⟨j + 1 + 1, by omega, by go_num, hd⟩
                    case measure => simp [intOf]; omega
              · rw [if_pos (by rw [ho])] at hd
                have HS : Hid (1 = retrFault l area back at_) := by rw [← HF.out, hd]; exact rfl
                clear hd
                by_cases hneg : at_[k] < 0
                · go_wp2
                  go_ret2
                  exact ⟨none, 0, by rw [HD.out, ← (HS.out)]; rfl, by rw [HD.out]; exact Own.nil _ _ _, hg1⟩
                · have hhi : (l.length : Int) ≤ at_[k] := by have := outB_true ho; omega
                  have hpos : 0 ≤ at_[k] := by omega
                  clear ho hneg
                  go_wp2
                  go_ret2
                  exact ⟨none, 0, by rw [HD.out, ← (HS.out)]; rfl, by rw [HD.out]; exact Own.nil _ _ _, hg1⟩
            · exfalso
              have := hsc.out
              rw [List.drop_of_length_le (by omega)] at this
              exact hne.out this.symm
      · have HF : Hid (1 = retrFault l area back at_) := by rw [hFr.out]; simp [Hid, backF, ho1]
        clear hFb hFr
        go_enter Try.func26, Try.ntmps26
        go_wp2_with fail
        refine (amounts_any _ _ _ _ _ hl).mono ?_
        rintro e w1 ⟨A1, c1, rfl, hM, hg1⟩
        go_wp2_with fail
        refine (outside_any _ _ _ _).mono ?_
        rintro e w' ⟨rfl, rfl⟩
        rw [ho1]
        go_wp2_with fail
        go_ret2
        exact ⟨none, 0, by rw [HD.out, ← (HF.out)]; rfl, by rw [HD.out]; exact Own.nil _ _ _, hg1⟩
  · have hb : (areaFault l area != 0) = true := by simp [hFa]
    have HF : Hid (areaFault l area = retrFault l area back at_) := by simp only [Hid, retrFault]; rw [orS_ne hFa]
    have HD : Hid (retracted l area back at_ = []) := by simp only [Hid, retracted]; rw [if_pos (by rw [← HF.out]; exact hFa)]
    clear hFa
    go_enter Try.func26, Try.ntmps26
    go_wp2_with fail
    refine (amounts_any _ _ _ _ _ hl).mono ?_
    rintro e w1 ⟨A1, c1, rfl, hM, hg1⟩
    go_wp2_with fail
    go_ret2
    exact ⟨none, 0, by rw [HD.out, ← (HF.out)]; rfl, by rw [HD.out]; exact Own.nil _ _ _, hg1⟩

end Go.Proofs.Ytdamjdhioipmeaa
