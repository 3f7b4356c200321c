/- Contracts of functions that this seat's laws reach, each: what one call returns and what it leaves in memory; no condition beyond each theorem's own hypotheses. -/
import Derived.Test.YtjfkglhodldkkaaDoorMFlowG
import Derived.Test.YtjfkglhodldkkaaDoorMSlices
set_option linter.unusedVariables false
set_option linter.unusedSimpArgs false
namespace Go.Proofs.YtjfkglhodldkkaaDoor
open Go.RowKit Go.Bl

set_option maxHeartbeats 1000000 in
set_option maxRecDepth 100000 in
theorem fastestGo_any (A : Option Addr) (c : Nat) (l : List Bead) (fl : Int) (w : World) (hl : Sl w 0 A l) :
    Calls Tryd.prog 9 #[.slice A l.length c, .int .i64 fl] w fun e w' => ∃ A' c', e = .returned (.tuple #[.slice A' (fastest l fl).length c', .int .i64 (fastFault l fl)]) ∧ Own w' w.heap.size 3 A' c' (fastest l fl) ∧ w.grownBy w' none := by
  by_cases h : checkBeads l = 0
  · have hb : (checkBeads l != 0) = false := by simp [h]
    rcases h3 : outB fl 1 1000000000000 with _ | _
    · have hF : fastFault l fl = 0 := by unfold fastFault; rw [orS_zero h]; simp [spanF, h3]
      obtain ⟨hm, hok⟩ := checkBeads_zero.1 h
      have hfl := outB_false h3
      have hok := hide hok
      have HD : Hid (fastest l fl = fastTo l fl) := by simp only [Hid, fastest]; rw [if_neg (by simp [hF])]
      have HF := hide hF
      clear hF h
      obtain ⟨i0, hi, hz, h1, h2⟩ := info_parts info_int
      go_enter Tryd.func9, Tryd.ntmps9
      go_wp2_with fail
      refine (checkBeads_any _ _ _ _ hl).mono ?_
      rintro e w1 ⟨rfl, hg1⟩
      go_wp2_with fail
      refine (outside_any _ _ _ _).mono ?_
      rintro e w2 ⟨rfl, rfl⟩
      go_wp2_with fail
      go_loopw [7, 19] (fun o i wr => ∃ (k : Nat) (out : List Int) (A' : Option Addr) (c' : Nat), k ≤ l.length ∧ i = .int .i64 k ∧ o = .slice A' out.length c' ∧ Hid (out = fastTo (l.take k) fl) ∧ Own wr w.heap.size 3 A' c' out ∧ w.grownBy wr none) (fun _ i _ => l.length - (intOf i).toNat)
      case atStart => exact ⟨0, [], none, 0, Nat.zero_le _, rfl, rfl, rfl, Own.nil _ _ _, by first | assumption | exact World.grownBy.refl _ _⟩
      case round =>
        obtain ⟨k, out, A', c', hk, rfl, rfl, hout, hown, hg⟩ := hrel
        have hol : out.length = k := by rw [hout.out]; simp [fastTo]; omega
        by_cases hlt : k < l.length
        · obtain ⟨g, o, cx, rfl, hb0, hb1, rfl, hc⟩ := (hl.pure hg).at_ (by decide) hlt
          have c0 : wr.cell? ⟨g, o + k * 3, none⟩ = some (.int .i64 l[k].long) := hc 0 _ rfl
          have c1 : wr.cell? ⟨g, o + k * 3 + 1, none⟩ = some (.int .i64 l[k].wide) := hc 1 _ rfl
          have c2 : wr.cell? ⟨g, o + k * 3 + 2, none⟩ = some (.int .i64 l[k].high) := hc 2 _ rfl
          clear hc
          have hokk : okBead l[k] = true := by have := hok.out; rw [List.all_eq_true] at this; exact this _ (List.getElem_mem _)
          obtain ⟨hw0, hw1⟩ := wh_bd hokk
          have hw2 : wrap64 (l[k].wide * l[k].high) = l[k].wide * l[k].high := i64_in (by omega)
          have HS : Hid (out ++ [fl / (l[k].wide * l[k].high)] = fastTo (l.take (k + 1)) fl) := by simp only [Hid]; rw [take_snoc hlt, fastTo_snoc, hout.out]
          replace hol := hide hol
          clear hokk
          go_wp2_with (at_builtin; refine wpList_push (α := Int) _ rfl (.tmp 23) (.tmp 31) _ rfl w.heap.size 3 i0 _ 8 Tryd.underlying22 hi hz h1 h2 rfl _ _ _ out rfl ?c1 (by exact (hown.pure (by repeat (first | exact World.grownBy.refl _ _ | assumption | refine gr_alloc ?_ _ | refine gr_drewN ?_ _ | refine gr_drew ?_)))) 0 ⟨_, 0, none⟩ 1 1 [fl / (l[k].wide * l[k].high)] rfl rfl (by exact sl_int1 _ _ _ _ (by first | rfl | simp)) ?c2 ?c3 ?c4 ?_)
          case c1 => rfl
          case c2 => rw [hol.out]; simp; omega
          case c3 => rw [hol.out]; simp [maxLen]; omega
          case c4 => simp; have := hg.size; omega
          intro A2 c2 w2 hown2 hup2
          go_wp2
          go_roundw
          case rel => exact ⟨k + 1, _, A2, c2, by omega, by go_num, by simp, HS, hown2, hup2.gr (Nat.le_refl _) (gr_alloc (gr_alloc hg _) _)⟩
          case measure => simp [intOf]; omega
        · have hfin : out = fastTo l fl := by have := hout.out; rwa [List.take_of_length_le (by omega)] at this
          clear hol hout
          have hfin := hide hfin
          go_wp2
          (go_ret2; exact ⟨A', c', by rw [HD.out, ← hfin.out, HF.out]; rfl, by rw [HD.out, ← hfin.out]; exact hown, hg⟩)
    · have hF : fastFault l fl = 1 := by unfold fastFault; rw [orS_zero h]; simp [spanF, h3]
      have HD : Hid (fastest l fl = []) := by simp only [Hid, fastest]; rw [if_pos (by simp [hF])]
      have HF := hide hF
      clear hF h
      go_enter Tryd.func9, Tryd.ntmps9
      go_wp2_with fail
      refine (checkBeads_any _ _ _ _ hl).mono ?_
      rintro e w1 ⟨rfl, hg1⟩
      go_wp2_with fail
      refine (outside_any _ _ _ _).mono ?_
      rintro e w2 ⟨rfl, rfl⟩
      go_wp2_with fail
      go_ret2
      exact ⟨none, 0, by rw [HD.out, HF.out]; rfl, by rw [HD.out]; exact Own.nil _ _ _, hg1⟩
  · have hb : (checkBeads l != 0) = true := by simp [h]
    have hF : fastFault l fl = checkBeads l := by unfold fastFault; rw [orS_ne h]
    have HD : Hid (fastest l fl = []) := by simp only [Hid, fastest]; rw [if_pos (by rw [hF]; exact h)]
    have HF := hide hF
    clear hF h
    go_enter Tryd.func9, Tryd.ntmps9
    go_wp2_with fail
    refine (checkBeads_any _ _ _ _ hl).mono ?_
    rintro e w1 ⟨rfl, hg1⟩
    go_wp2_with fail
    go_ret2
    exact ⟨none, 0, by rw [HD.out, HF.out]; rfl, by rw [HD.out]; exact Own.nil _ _ _, hg1⟩

set_option maxHeartbeats 1000000 in
set_option maxRecDepth 100000 in
theorem backFault_any (A : Option Addr) (c : Nat) (l : List Bead) (back : Int) (B : Option Addr) (d : Nat) (at_ : List Int) (W : World) (hB : Sl W 0 B at_) (hll : l.length ≤ 1000000) :
    Calls Tryd.prog 14 #[.slice A l.length c, .int .i64 back, .slice B at_.length d] W fun e w' => e = .returned (.int .i64 (backF l.length back at_)) ∧ W = w' := by
  have hm := hB.1
  unfold maxLen at hm
  rcases h1 : outB back 1 5000 with _ | _
  · have hs : spanF back 1 5000 = 0 := by simp [spanF, h1]
    by_cases h2 : 5000 < at_.length
    · have HF : Hid (2 = backF l.length back at_) := by simp [Hid, backF, h1, h2]
      go_enter Tryd.func14, Tryd.ntmps14
      go_wp2_with (go_at_call 27; refine (spanFault_any _ _ _ _).mono ?_; rintro e w' ⟨rfl, rfl⟩; rw [hs])
      go_ret
      exact ⟨ret_int HF.out, rfl⟩
    · have HF : Hid (scanP l.length none at_ = backF l.length back at_) := by simp [Hid, backF, h1, h2]
      go_enter Tryd.func14, Tryd.ntmps14
      go_wp2_with (go_at_call 27; refine (spanFault_any _ _ _ _).mono ?_; rintro e w' ⟨rfl, rfl⟩; rw [hs])
      go_loop [20] (fun i => ∃ k : Nat, k ≤ at_.length ∧ i = .int .i64 k ∧ Hid (scanP (l.length : Int) (prevAt at_ k) (at_.drop k) = scanP (l.length : Int) none at_)) (fun i => at_.length - (intOf i).toNat)
      case atStart => exact ⟨0, Nat.zero_le _, rfl, rfl⟩
      case round =>
        obtain ⟨k, hk, rfl, hsc⟩ := hrel
        obtain ⟨wr, hwr⟩ : ∃ wr : World, wr = W := ⟨_, rfl⟩
        subst hwr
        by_cases hlt : k < at_.length
        · obtain ⟨g, o, cx, rfl, hb0, hb1, rfl, hc⟩ := (hB).at_ (by decide) hlt
          have c0 : wr.cell? ⟨g, o + k, none⟩ = some (.int .i64 at_[k]) := by have := hc 0 _ rfl; rwa [show Enc.sz Int = 1 from rfl, Nat.mul_one] at this
          clear hc
          have hd := scan_drop (nb := l.length) hlt
          rw [hsc.out] at hd
          rcases ho : inB at_[k] 0 ((l.length : Int) - 1) with _ | _
          · have HS : Hid (1 = backF l.length back at_) := by
              rw [← HF.out, hd, if_pos (by rw [← inB_not, ho]; rfl)]; exact rfl
            clear hd
            go_wp2_with (go_at_call 20; refine (in_any _ _ _ _).mono ?_; rintro e w' ⟨rfl, rfl⟩)
            go_ret
            exact ⟨ret_int HS.out, rfl⟩
          · rw [if_neg (by rw [← inB_not, ho]; simp)] at hd
            rcases k with _ | j
            · rw [if_neg (by simp [prevAt, leO])] at hd
              rw [Nat.add_zero] at c0
              replace hd := hide hd.symm
              go_wp2_with (go_at_call 20; refine (in_any _ _ _ _).mono ?_; rintro e w' ⟨rfl, rfl⟩)
              go_round
              case rel => exact ⟨1, by omega, by go_num, hd⟩
              case measure => simp [intOf]; omega
            · have hj : j < at_.length := by omega
              have hc1 : wr.cell? ⟨g, o + j, none⟩ = some (.int .i64 at_[j]) := by
                obtain ⟨g', o', cx, e, _, _, rfl, hc⟩ := hB.at_ (by decide) hj
                injection e with e
                injection e with e1 e2
                subst e1
                subst e2
                have := hc 0 _ rfl
                rwa [show Enc.sz Int = 1 from rfl, Nat.mul_one] at this
              have hpv : prevAt at_ (j + 1) = some at_[j] := by simp [prevAt, hj]
              by_cases hle : at_[j + 1] ≤ at_[j]
              · rw [if_pos (by rw [hpv]; simp [leO, hle])] at hd
                have HS : Hid (7 = backF l.length back at_) := by rw [← HF.out, hd]; exact rfl
                clear hd hpv
                go_wp2_with (go_at_call 20; refine (in_any _ _ _ _).mono ?_; rintro e w' ⟨rfl, rfl⟩)
                go_ret
                exact ⟨ret_int HS.out, rfl⟩
              · rw [if_neg (by rw [hpv]; simp [leO]; omega)] at hd
                replace hd := hide hd.symm
                have hle' : at_[j] < at_[j + 1] := by omega
                clear hpv hle
                go_wp2_with (go_at_call 20; refine (in_any _ _ _ _).mono ?_; rintro e w' ⟨rfl, rfl⟩)
                go_round
                case rel => exact ⟨j + 1 + 1, by omega, by go_num, hd⟩
                case measure => simp [intOf]; omega
        · have HS : Hid (0 = backF l.length back at_) := by
            rw [← HF.out, ← hsc.out, List.drop_of_length_le (by omega)]; exact rfl
          go_wp2
          go_ret
          exact ⟨ret_int HS.out, rfl⟩
  · have hs : spanF back 1 5000 = 1 := by simp [spanF, h1]
    have HF : Hid (1 = backF l.length back at_) := by simp [Hid, backF, h1]
    go_enter Tryd.func14, Tryd.ntmps14
    go_wp2_with (go_at_call 27; refine (spanFault_any _ _ _ _).mono ?_; rintro e w' ⟨rfl, rfl⟩; rw [hs])
    go_ret
    exact ⟨ret_int HF.out, rfl⟩

set_option maxHeartbeats 4000000 in
set_option maxRecDepth 100000 in
theorem retracted_any (A : Option Addr) (c : Nat) (l : List Bead) (area back : Int) (B : Option Addr) (d : Nat) (at_ : List Int) (w : World) (hl : Sl w 0 A l) (hll : l.length ≤ 1000000) (hB : Sl w 0 B at_) :
    Calls Tryd.prog 15 #[.slice A l.length c, .int .i64 area, .int .i64 back, .slice B at_.length d] w fun e w' => ∃ A' c', e = .returned (.tuple #[.slice A' (retracted l area back at_).length c', .int .i64 (retrFault l area back at_)]) ∧ Own w' w.heap.size 3 A' c' (retracted l area back at_) ∧ w.grownBy w' none := by
  have hm := hB.1
  unfold maxLen at hm
  by_cases hFa : areaFault l area = 0
  · have hb : (areaFault l area != 0) = false := by simp [hFa]
    have hFr : Hid (retrFault l area back at_ = backF l.length back at_) := by simp only [Hid, retrFault]; rw [orS_zero hFa]
    have hM5 : (amounts l area).length ≤ 5000 := by rw [amounts_len hFa]; exact (areaFault_zero hFa).1
    clear hFa
    by_cases hFb : backF l.length back at_ = 0
    · obtain ⟨hback, hal, hup⟩ := backF_zero hFb
      have ho1 : outB back 1 5000 = false := by unfold outB; simp; omega
      have hsc0 : Hid (scanP (l.length : Int) none at_ = 0) := by have := hFb; unfold backF at this; rw [ho1, if_neg (by simp), if_neg (by omega)] at this; exact this
      have HF : Hid (retrFault l area back at_ = 0) := hFr.out.trans hFb
      have HD : Hid (retracted l area back at_ = retrTo (amounts l area) at_ back (amounts l area).length) := by simp only [Hid, retracted]; rw [if_neg (by rw [HF.out]; simp)]
      replace hup := hide hup
      clear hFb hFr
      obtain ⟨i0, hi, hz, h1, h2⟩ := info_parts info_int
      go_enter Tryd.func15, Tryd.ntmps15
      go_wp2_with fail
      refine (amounts_any _ _ _ _ _ hl).mono ?_
      rintro e w1 ⟨A1, c1, rfl, hM, hg1⟩
      replace hM := hM.sl.mono (Nat.zero_le _)
      have hB1 := hB.pure hg1
      have hsz := hg1.size
      generalize amounts l area = M at *
      go_wp2_with fail
      refine (outside_any _ _ _ _).mono ?_
      rintro e w' ⟨rfl, rfl⟩
      rw [ho1]
      go_wp2_with fail
      go_loop [35] (fun i => ∃ k : Nat, k ≤ at_.length ∧ i = .int .i64 k ∧ Hid (scanP (l.length : Int) (prevAt at_ k) (at_.drop k) = 0)) (fun i => at_.length - (intOf i).toNat)
      case atStart => exact ⟨0, Nat.zero_le _, rfl, hsc0⟩
      case round =>
        obtain ⟨k, hk, rfl, hsc⟩ := hrel
        by_cases hlt : k < at_.length
        · obtain ⟨wr, hwr⟩ : ∃ wr : World, wr = w1 := ⟨_, rfl⟩
          subst hwr
          obtain ⟨g, o, cx, rfl, hb0, hb1, rfl, hc⟩ := (hB1).at_ (by decide) hlt
          have c0 : wr.cell? ⟨g, o + k, none⟩ = some (.int .i64 at_[k]) := by have := hc 0 _ rfl; rwa [show Enc.sz Int = 1 from rfl, Nat.mul_one] at this
          clear hc
          have hd := scan_drop (nb := l.length) hlt
          rw [hsc.out] at hd
          rcases ho : outB at_[k] 0 ((l.length : Int) - 1) with _ | _
          · rw [if_neg (by rw [ho]; simp)] at hd
            have hrange := outB_false ho
            have hr0 : 0 ≤ at_[k] := hrange.1
            have hr1 : at_[k] < (l.length : Int) := by omega
            clear hrange ho
            rcases k with _ | j
            · rw [if_neg (by simp [prevAt, leO])] at hd
              rw [Nat.add_zero] at c0
              replace hd := hide hd.symm
              go_wp2
              go_round
              case rel => exact ⟨1, by omega, by go_num, hd⟩
              case measure => simp [intOf]; omega
            · have hj : j < at_.length := by omega
              have hc1 : wr.cell? ⟨g, o + j, none⟩ = some (.int .i64 at_[j]) := by
                obtain ⟨g', o', cx, e, _, _, rfl, hc⟩ := hB1.at_ (by decide) hj
                injection e with e
                injection e with e1 e2
                subst e1
                subst e2
                have := hc 0 _ rfl
                rwa [show Enc.sz Int = 1 from rfl, Nat.mul_one] at this
              have hpv : prevAt at_ (j + 1) = some at_[j] := by simp [prevAt, hj]
              by_cases hle : at_[j + 1] ≤ at_[j]
              · rw [if_pos (by rw [hpv]; simp [leO, hle])] at hd
                cases hd
              · rw [if_neg (by rw [hpv]; simp [leO]; omega)] at hd
                replace hd := hide hd.symm
                have hle' : at_[j] < at_[j + 1] := by omega
                clear hpv hle
                go_wp2
                go_round
                case rel => exact ⟨j + 1 + 1, by omega, by go_num, hd⟩
                case measure => simp [intOf]; omega
          · rw [if_pos (by rw [ho])] at hd
            cases hd
        · go_wp2_with fail
          have hneg : wrap64 (-back) = -back := i64_in (by omega)
          go_loopw [14, 62] (fun o i wr => ∃ (k : Nat) (out : List Int) (A' : Option Addr) (c' : Nat), k ≤ M.length ∧ i = .int .i64 k ∧ o = .slice A' out.length c' ∧ Hid (out = retrTo M at_ back k) ∧ Own wr w1.heap.size 3 A' c' out ∧ w1.grownBy wr none) (fun _ i _ => M.length - (intOf i).toNat)
          case atStart => exact ⟨0, [], none, 0, Nat.zero_le _, rfl, rfl, rfl, Own.nil _ _ _, World.grownBy.refl _ _⟩
          case round =>
            obtain ⟨k, out, A', c', hk, rfl, rfl, hout, hown, hg⟩ := hrel
            have hol : out.length ≤ 3 * k := by rw [hout.out]; exact retrTo_len _ _ _ _
            have hsz1 := hg.size
            by_cases hlt : k < M.length
            · obtain ⟨g, o, cx, rfl, hb0, hb1, rfl, hc⟩ := (hM.pure hg).at_ (by decide) hlt
              have c0 : wr.cell? ⟨g, o + k, none⟩ = some (.int .i64 M[k]) := by have := hc 0 _ rfl; rwa [show Enc.sz Int = 1 from rfl, Nat.mul_one] at this
              clear hc
              rcases hmem : memB at_ k with _ | _
              · have HS : Hid (out ++ [M[k]] = retrTo M at_ back (k + 1)) := by simp only [Hid]; rw [retrTo_succ, retrOne_no hlt hmem, hout.out]
                go_wp2_with fail
                (refine (binSearchInt_any _ _ _ _ _ (hB1.pure hg) hup.out (by omega)).mono ?_; rintro e wc ⟨rI, rfl, hgc⟩; rw [hmem])
                have hownc := hown.pure hgc
                have hgg := hg.t hgc
                have hsz2 := hgg.size
                go_wp2_with (at_builtin; refine wpList_push (α := Int) _ rfl (.tmp 80) (.tmp 82) _ rfl w1.heap.size 3 i0 _ 8 Tryd.underlying22 hi hz h1 h2 rfl _ _ _ out rfl ?c1 (by exact (hownc.pure (by repeat (first | exact World.grownBy.refl _ _ | assumption | refine gr_alloc ?_ _ | refine gr_drewN ?_ _ | refine gr_drew ?_)))) 0 ⟨_, 0, none⟩ 1 1 [M[k]] rfl rfl (by exact sl_int1 _ _ _ _ (by first | rfl | simp)) ?c2 ?c3 ?c4 ?_)
                case c1 => rfl
                case c2 => simp; omega
                case c3 => simp [maxLen]; omega
                case c4 => simp; omega
                intro A2 c2 w2 hown2 hup2
                go_wp2
                go_roundw
                case rel => exact ⟨k + 1, _, A2, c2, by omega, by go_num, by simp, HS, hown2, hup2.gr (Nat.le_refl _) (gr_alloc hgg _)⟩
                case measure => simp [intOf]; omega
              · have HS : Hid (out ++ [-back, back, M[k]] = retrTo M at_ back (k + 1)) := by simp only [Hid]; rw [retrTo_succ, retrOne_yes hlt hmem, hout.out]; simp
                go_wp2_with fail
                (refine (binSearchInt_any _ _ _ _ _ (hB1.pure hg) hup.out (by omega)).mono ?_; rintro e wc ⟨rI, rfl, hgc⟩; rw [hmem])
                have hownc := hown.pure hgc
                have hgg := hg.t hgc
                have hsz2 := hgg.size
                go_wp2_with (at_builtin; refine wpList_push (α := Int) _ rfl (.tmp 74) (.tmp 78) _ rfl w1.heap.size 3 i0 _ 8 Tryd.underlying22 hi hz h1 h2 rfl _ _ _ out rfl ?c1 (by exact (hownc.pure (by repeat (first | exact World.grownBy.refl _ _ | assumption | refine gr_alloc ?_ _ | refine gr_drewN ?_ _ | refine gr_drew ?_)))) 0 ⟨_, 0, none⟩ _ _ [-back, back] rfl rfl (by exact sl_intsAt _ 0 _ [-back, back] _ (by first | rfl | simp) (Nat.zero_le _) (by simp [maxLen])) ?c2 ?c3 ?c4 ?_)
                case c1 => rfl
                case c2 => simp; omega
                case c3 => simp [maxLen]; omega
                case c4 => simp; omega
                intro A2 c2 w2 hown2 hup2
                have hg2 := hup2.gr (Nat.le_refl _) (gr_alloc hgg _)
                have hsz3 := hg2.size
                go_wp2_with (at_builtin; refine wpList_push (α := Int) _ rfl (.tmp 80) (.tmp 82) _ rfl w1.heap.size 3 i0 _ 8 Tryd.underlying22 hi hz h1 h2 rfl _ _ _ (out ++ [-back, back]) rfl ?c1 (by exact (hown2.pure (by repeat (first | exact World.grownBy.refl _ _ | assumption | refine gr_alloc ?_ _ | refine gr_drewN ?_ _ | refine gr_drew ?_)))) 0 ⟨_, 0, none⟩ 1 1 [M[k]] rfl rfl (by exact sl_int1 _ _ _ _ (by first | rfl | simp)) ?c2 ?c3 ?c4 ?_)
                case c1 => simp
                case c2 => simp; omega
                case c3 => simp [maxLen]; omega
                case c4 => simp; omega
                intro A3 c3 w3 hown3 hup3
                go_wp2
                go_roundw
                case rel => exact ⟨k + 1, _, A3, c3, by omega, by go_num, by simp, HS, hown3, hup3.gr (Nat.le_refl _) (gr_alloc hg2 _)⟩
                case measure => simp [intOf]; omega
            · have hkl : k = M.length := by omega
              subst hkl
              go_wp2
              (go_ret2; exact ⟨A', c', by rw [HD.out, ← hout.out, HF.out]; rfl, by rw [HD.out, ← hout.out]; exact hown.lower hsz, hg1.t hg⟩)
    · have HD : Hid (retracted l area back at_ = []) := by simp only [Hid, retracted]; rw [if_pos (by rw [hFr.out]; exact hFb)]
      rcases ho1 : outB back 1 5000 with _ | _
      · by_cases h5 : 5000 < at_.length
        · have HF : Hid (2 = retrFault l area back at_) := by rw [hFr.out]; simp [Hid, backF, ho1, h5]
          clear hFb hFr
          go_enter Tryd.func15, Tryd.ntmps15
          go_wp2_with fail
          refine (amounts_any _ _ _ _ _ hl).mono ?_
          rintro e w1 ⟨A1, c1, rfl, hM, hg1⟩
          go_wp2_with fail
          refine (outside_any _ _ _ _).mono ?_
          rintro e w' ⟨rfl, rfl⟩
          rw [ho1]
          go_wp2_with fail
          go_ret2
          exact ⟨none, 0, by rw [HD.out, ← (HF.out)]; rfl, by rw [HD.out]; exact Own.nil _ _ _, hg1⟩
        · have HF : Hid (scanP (l.length : Int) none at_ = retrFault l area back at_) := by rw [hFr.out]; simp [Hid, backF, ho1, h5]
          have hne : Hid (scanP (l.length : Int) none at_ ≠ 0) := by rw [HF.out, hFr.out]; exact hFb
          clear hFb hFr
          go_enter Tryd.func15, Tryd.ntmps15
          go_wp2_with fail
          refine (amounts_any _ _ _ _ _ hl).mono ?_
          rintro e w1 ⟨A1, c1, rfl, hM, hg1⟩
          have hB1 := hB.pure hg1
          go_wp2_with fail
          refine (outside_any _ _ _ _).mono ?_
          rintro e w' ⟨rfl, rfl⟩
          rw [ho1]
          go_wp2_with fail
          go_loop [35] (fun i => ∃ k : Nat, k ≤ at_.length ∧ i = .int .i64 k ∧ Hid (scanP (l.length : Int) (prevAt at_ k) (at_.drop k) = scanP (l.length : Int) none at_)) (fun i => at_.length - (intOf i).toNat)
          case atStart => exact ⟨0, Nat.zero_le _, rfl, rfl⟩
          case round =>
            obtain ⟨k, hk, rfl, hsc⟩ := hrel
            obtain ⟨wr, hwr⟩ : ∃ wr : World, wr = w1 := ⟨_, rfl⟩
            subst hwr
            by_cases hlt : k < at_.length
            · obtain ⟨g, o, cx, rfl, hb0, hb1, rfl, hc⟩ := (hB1).at_ (by decide) hlt
              have c0 : wr.cell? ⟨g, o + k, none⟩ = some (.int .i64 at_[k]) := by have := hc 0 _ rfl; rwa [show Enc.sz Int = 1 from rfl, Nat.mul_one] at this
              clear hc
              have hd := scan_drop (nb := l.length) hlt
              rw [hsc.out] at hd
              rcases ho : outB at_[k] 0 ((l.length : Int) - 1) with _ | _
              · rw [if_neg (by rw [ho]; simp)] at hd
                have hrange := outB_false ho
                have hr0 : 0 ≤ at_[k] := hrange.1
                have hr1 : at_[k] < (l.length : Int) := by omega
                clear hrange ho
                rcases k with _ | j
                · rw [if_neg (by simp [prevAt, leO])] at hd
                  rw [Nat.add_zero] at c0
                  replace hd := hide hd.symm
                  go_wp2
                  go_round
                  case rel => exact ⟨1, by omega, by go_num, hd⟩
                  case measure => simp [intOf]; omega
                · have hj : j < at_.length := by omega
                  have hc1 : wr.cell? ⟨g, o + j, none⟩ = some (.int .i64 at_[j]) := by
                    obtain ⟨g', o', cx, e, _, _, rfl, hc⟩ := hB1.at_ (by decide) hj
                    injection e with e
                    injection e with e1 e2
                    subst e1
                    subst e2
                    have := hc 0 _ rfl
                    rwa [show Enc.sz Int = 1 from rfl, Nat.mul_one] at this
                  have hpv : prevAt at_ (j + 1) = some at_[j] := by simp [prevAt, hj]
                  by_cases hle : at_[j + 1] ≤ at_[j]
                  · rw [if_pos (by rw [hpv]; simp [leO, hle])] at hd
                    have HS : Hid (7 = retrFault l area back at_) := by rw [← HF.out, hd]; exact rfl
                    clear hd hpv
                    go_wp2
                    go_ret2
                    exact ⟨none, 0, by rw [HD.out, ← (HS.out)]; rfl, by rw [HD.out]; exact Own.nil _ _ _, hg1⟩
                  · rw [if_neg (by rw [hpv]; simp [leO]; omega)] at hd
                    replace hd := hide hd.symm
                    have hle' : at_[j] < at_[j + 1] := by omega
                    clear hpv hle
                    go_wp2
                    go_round
                    case rel => exact ⟨j + 1 + 1, by omega, by go_num, hd⟩
                    case measure => simp [intOf]; omega
              · rw [if_pos (by rw [ho])] at hd
                have HS : Hid (1 = retrFault l area back at_) := by rw [← HF.out, hd]; exact rfl
                clear hd
                by_cases hneg : at_[k] < 0
                · go_wp2
                  go_ret2
                  exact ⟨none, 0, by rw [HD.out, ← (HS.out)]; rfl, by rw [HD.out]; exact Own.nil _ _ _, hg1⟩
                · have hhi : (l.length : Int) ≤ at_[k] := by have := outB_true ho; omega
                  have hpos : 0 ≤ at_[k] := by omega
                  clear ho hneg
                  go_wp2
                  go_ret2
                  exact ⟨none, 0, by rw [HD.out, ← (HS.out)]; rfl, by rw [HD.out]; exact Own.nil _ _ _, hg1⟩
            · exfalso
              have := hsc.out
              rw [List.drop_of_length_le (by omega)] at this
              exact hne.out this.symm
      · have HF : Hid (1 = retrFault l area back at_) := by rw [hFr.out]; simp [Hid, backF, ho1]
        clear hFb hFr
        go_enter Tryd.func15, Tryd.ntmps15
        go_wp2_with fail
        refine (amounts_any _ _ _ _ _ hl).mono ?_
        rintro e w1 ⟨A1, c1, rfl, hM, hg1⟩
        go_wp2_with fail
        refine (outside_any _ _ _ _).mono ?_
        rintro e w' ⟨rfl, rfl⟩
        rw [ho1]
        go_wp2_with fail
        go_ret2
        exact ⟨none, 0, by rw [HD.out, ← (HF.out)]; rfl, by rw [HD.out]; exact Own.nil _ _ _, hg1⟩
  · have hb : (areaFault l area != 0) = true := by simp [hFa]
    have HF : Hid (areaFault l area = retrFault l area back at_) := by simp only [Hid, retrFault]; rw [orS_ne hFa]
    have HD : Hid (retracted l area back at_ = []) := by simp only [Hid, retracted]; rw [if_pos (by rw [← HF.out]; exact hFa)]
    clear hFa
    go_enter Tryd.func15, Tryd.ntmps15
    go_wp2_with fail
    refine (amounts_any _ _ _ _ _ hl).mono ?_
    rintro e w1 ⟨A1, c1, rfl, hM, hg1⟩
    go_wp2_with fail
    go_ret2
    exact ⟨none, 0, by rw [HD.out, ← (HF.out)]; rfl, by rw [HD.out]; exact Own.nil _ _ _, hg1⟩

end Go.Proofs.YtjfkglhodldkkaaDoor

namespace Go.Proofs.YtjfkglhodldkkaaDoor
open Go.RowKit Go.Bl

/- times, and the one more, all right or the first that is not -/
theorem okTime_false {t : Int} (h : inB t 0 86400000 = false) : okTime t = false := by unfold okTime; rw [← inB_not, h]; rfl
theorem okTime_true {t : Int} (h : inB t 0 86400000 = true) : okTime t = true := by unfold okTime; rw [← inB_not, h]; rfl
theorem timesF_bad {times : List Int} {least : Int} (hl : ¬ 5000 < times.length) {k : Nat} (hk : k < (times ++ [least]).length) (h : okTime (times ++ [least])[k] = false) : timesF times least = 1 := by
  unfold timesF
  rw [if_neg hl, if_neg]
  intro hall
  rw [List.all_eq_true] at hall
  have := hall _ (List.getElem_mem hk)
  rw [h] at this
  cases this
theorem timesF_good {times : List Int} {least : Int} (hl : ¬ 5000 < times.length) (h : (times ++ [least]).all okTime = true) : timesF times least = 0 := by
  unfold timesF
  rw [if_neg hl, if_pos h]

end Go.Proofs.YtjfkglhodldkkaaDoor

namespace Go.Proofs.YtjfkglhodldkkaaDoor
open Go.RowKit Go.Bl

theorem orS_assoc (a b c : Int) : orS (orS a b) c = orS a (orS b c) := by
  unfold orS
  by_cases h : a = 0 <;> by_cases h2 : b = 0 <;> simp [h, h2]

def SInts (b : Nat) (N : Int) (n : Int) (w : World) (e : Ending) (w' : World) : Prop := ∃ (l : List Int) (A : Option Addr) (c : Nat), e = .returned (.slice A l.length c) ∧ Own w' w.heap.size 3 A c l ∧ (l.length : Int) ≤ n ∧ SOut b N w w'

set_option maxHeartbeats 2000000 in
theorem beadPlaces_any (b : Nat) (N n : Int) (w : World) (hs : Strm w b N) (hN : N ≤ 1000000000) (hn : 0 ≤ n ∧ n ≤ 1000000) :
    Calls Tryd.prog 12 #[.pointer (some ⟨b, 0, none⟩), .int .i64 n] w (SInts b (N + n + 3) n w) := by
  obtain ⟨i0, hi, hz, h1, h2⟩ := info_parts info_int
  have hbw := hs.lt
  go_enter Tryd.func12, Tryd.ntmps12
  go_wp2_with fail
  go_loopw [5, 8] (fun o i wr => ∃ (k : Nat) (l : List Int) (A : Option Addr) (c : Nat), (k : Int) ≤ n ∧ i = .int .i64 k ∧ o = .slice A l.length c ∧ l.length ≤ k ∧ Own wr w.heap.size 3 A c l ∧ SOut b (N + k) w wr) (fun _ i _ => (n - intOf i).toNat)
  case atStart => exact ⟨0, [], none, 0, by omega, rfl, rfl, Nat.le_refl _, Own.nil _ _ _, (SOut.refl hs).mono (by omega)⟩
  case round =>
    obtain ⟨k, l, A, c, hk, rfl, rfl, hlk, hown, ho⟩ := hrel
    by_cases hlt : (k : Int) < n
    · go_wp2_with fail
      refine (flip_any b (N + k) _ _ ho.2 (by omega) (by omega)).mono ?_
      rintro e w2 ⟨f, rfl, ho2⟩
      have hown2 := hown.s ho2 hbw
      have hoA := ho.trans ho2
      have hsz := hoA.1.size
      cases f
      · go_wp2_with fail
        go_roundw
        case rel => exact ⟨k + 1, l, A, c, by omega, by go_num, rfl, by omega, hown2, hoA.mono (by omega)⟩
        case measure => simp [intOf]; omega
      · go_wp2_with (at_builtin; refine wpList_push (α := Int) _ rfl (.tmp 13) (.tmp 15) _ rfl w.heap.size 3 i0 _ 8 Tryd.underlying22 hi hz h1 h2 rfl _ _ _ l rfl ?c1 (by exact (hown2.pure (by repeat (first | exact World.grownBy.refl _ _ | assumption | refine gr_alloc ?_ _ | refine gr_drewN ?_ _ | refine gr_drew ?_)))) 0 ⟨_, 0, none⟩ 1 1 [(k : Int)] rfl rfl (by exact sl_int1 _ _ _ _ (by first | rfl | simp)) ?c2 ?c3 ?c4 ?_)
        case c1 => rfl
        case c2 => simp; omega
        case c3 => simp [maxLen]; omega
        case c4 => simp; omega
        intro A5 c5 w5 hown5 hup5
        go_wp2
        go_roundw
        case rel => exact ⟨k + 1, l ++ [(k : Int)], A5, c5, by omega, by go_num, by simp, by simp; omega, hown5, ((hoA.pure (gr_alloc (World.grownBy.refl _ _) _)).upd (Nat.le_refl _) hbw hup5).mono (by omega)⟩
        case measure => simp [intOf]; omega
    · have hkn : (k : Int) = n := by omega
      have hln : (l.length : Int) ≤ n := by omega
      by_cases hl0 : l.length = 0
      · have hbb : decide (0 < l.length) = false := by simp [hl0]
        have hl00 := hide hl0
        clear hl0
        go_wp2_with fail
        go_ret
        exact ⟨l, A, c, rfl, hown, hln, ho.mono (by omega)⟩
      · have hl1 : 0 < l.length := by omega
        clear hl0
        go_wp2_with fail
        refine (flip_any b (N + k) _ _ ho.2 (by omega) (by omega)).mono ?_
        rintro e w2 ⟨f, rfl, ho2⟩
        have hown2 := hown.s ho2 hbw
        have hoA := ho.trans ho2
        cases f
        · go_wp2_with fail
          go_ret
          exact ⟨l, A, c, rfl, hown2, hln, hoA.mono (by omega)⟩
        · obtain ⟨g, rfl, hg0, hg1⟩ := hown2.shape hl1
          go_wp2_with fail
          refine (next_any b (N + k + 1) _ _ hoA.2 (by omega) (by omega)).mono ?_
          rintro e w3 ⟨r, rfl, ⟨hr0, hr1⟩, ho3⟩
          obtain ⟨i, rfl⟩ := Int.eq_ofNat_of_zero_le hr0
          have hown3 := hown2.s ho3 hbw
          have hoB := hoA.trans ho3
          go_wp2_with fail
          refine (pick_any b (N + k + 1 + 1) _ _ _ [-1, n, 0] _ (hoB.2.pure (gr_alloc (World.grownBy.refl _ _) _)) (by omega) (sl_intsAt _ _ _ _ _ (by simp) (by have := hoB.lt; omega) (by simp [maxLen])) rfl (by simp)).mono ?_
          rintro e w4 ⟨a1, rfl, ha1, ho4⟩
          have hown4 := (hown3.pure (gr_alloc (World.grownBy.refl _ _) _)).s ho4 hbw
          have hoC := (hoB.pure (gr_alloc (World.grownBy.refl _ _) _)).trans ho4
          have hil : i < l.length := by omega
          have f0 := hown4.frozen i
          have k0 := hown4.cell_int hil
          have hset := hide (hown4.set_int i a1)
          have hgr := hide (gr_set (p := ⟨g, i, none⟩) (World.grownBy.refl w4 (some g)) (.inl rfl) (.int .i64 a1))
          clear hown hown2 hown3 hown4
          go_wp2_with fail
          go_ret
          refine ⟨l.set i a1, _, c, ?_, hset.out, ?_, gr_new hoC.1 hgr.out hg0, ?_⟩
          · rw [List.length_set]; rfl
          · rw [List.length_set]; exact hln
          · exact (hoC.2.gr hgr.out (fun g' e => by cases e; omega)).mono (by omega)

end Go.Proofs.YtjfkglhodldkkaaDoor
