/- Contracts of functions that this seat's laws reach, each: what one call returns and what it leaves in memory; no condition beyond each theorem's own hypotheses. -/
import Derived.Test.YtlefdcodfjifcaaGreatDoorMFlowG
import Derived.Test.YtlefdcodfjifcaaGreatDoorMSlices
set_option linter.unusedVariables false
set_option linter.unusedSimpArgs false
namespace Go.Proofs.YtlefdcodfjifcaaGreatDoor
open Go.RowKit Go.Bl

end Go.Proofs.YtlefdcodfjifcaaGreatDoor

namespace Go.Proofs.YtlefdcodfjifcaaGreatDoor
open Go.RowKit Go.Bl

/- times, and the one more, all right or the first that is not -/

theorem okTime_false {t : Int} (h : inB t 0 86400000 = false) : okTime t = false := by unfold okTime; rw [← inB_not, h]; rfl

theorem okTime_true {t : Int} (h : inB t 0 86400000 = true) : okTime t = true := by unfold okTime; rw [← inB_not, h]; rfl

theorem timesF_bad {times : List Int} {least : Int} (hl : ¬ 5000 < times.length) {k : Nat} (hk : k < (times ++ [least]).length) (h : okTime (times ++ [least])[k] = false) : timesF times least = 1 := by
  unfold timesF
  rw [if_neg hl, if_neg]
  intro hall
  rw [List.all_eq_true] at hall
  have := hall _ (List.getElem_mem hk)
  rw [h] at this
  cases this

theorem timesF_good {times : List Int} {least : Int} (hl : ¬ 5000 < times.length) (h : (times ++ [least]).all okTime = true) : timesF times least = 0 := by
  unfold timesF
  rw [if_neg hl, if_pos h]

set_option maxRecDepth 100000 in
set_option maxHeartbeats 2000000 in
theorem slowed_any (A : Option Addr) (c : Nat) (times : List Int) (least : Int) (w : World) (hl : Sl w 0 A times) :
    Calls Tryz.prog 22 #[.slice A times.length c, .int .i64 least] w fun e w' => ∃ A' c', e = .returned (.tuple #[.slice A' (slowed times least).length c', .int .i64 (grown times least), .int .i64 (timesF times least)]) ∧ Own w' w.heap.size 3 A' c' (slowed times least) ∧ w.grownBy w' none := by
  have hm := hl.1
  unfold maxLen at hm
  by_cases h5 : 5000 < times.length
  · have HF : Hid (2 = timesF times least) := by simp [Hid, timesF, h5]
    have HD : Hid (slowed times least = [] ∧ grown times least = 0) := by simp only [Hid, slowed, grown]; rw [if_pos (by rw [← HF.out]; simp), if_pos (by rw [← HF.out]; simp)]; exact ⟨rfl, rfl⟩
    go_enter Tryz.func22, Tryz.ntmps22
    go_wp2
    go_ret3
    exact ⟨none, 0, by rw [HD.out.1, HD.out.2, ← HF.out]; rfl, by rw [HD.out.1]; exact Own.nil _ _ _, World.grownBy.refl _ _⟩
  · have hclone := cloneInt_any A c times w hl (by omega)
    obtain ⟨i0, hi, hz, h1, h2⟩ := info_parts info_int
    go_enter Tryz.func22, Tryz.ntmps22
    go_wp2_with fail
    refine hclone.mono ?_
    rintro e w1 ⟨A1, c1, rfl, hT, hg1⟩
    have hsz1 := hg1.size
    go_wp2_with (at_builtin; refine wpList_push (α := Int) _ rfl (.tmp 17) (.tmp 19) _ rfl w.heap.size 3 i0 _ 8 Tryz.underlying22 hi hz h1 h2 rfl _ _ _ times rfl ?c1 (by exact (hT.pure (by repeat (first | exact World.grownBy.refl _ _ | assumption | refine gr_alloc ?_ _ | refine gr_drewN ?_ _ | refine gr_drew ?_)))) 0 ⟨_, 0, none⟩ 1 1 [least] rfl rfl (by exact sl_int1 _ _ _ _ (by first | rfl | simp)) ?c2 ?c3 ?c4 ?_)
    case c1 => rfl
    case c2 => simp; omega
    case c3 => simp [maxLen]; omega
    case c4 => simp; omega
    intro A2 c2 w2 hT2 hup2
    have hg2 := hup2.gr (Nat.le_refl _) (gr_alloc hg1 _)
    have hTs := hT2.sl.mono (Nat.zero_le _)
    obtain ⟨T, hTd⟩ : ∃ T, T = times ++ [least] := ⟨_, rfl⟩
    have hTl : T.length = times.length + 1 := by rw [hTd]; simp
    rw [← hTd] at hTs
    replace hTl := hide hTl
    replace hTd := hide hTd
    clear hT hT2 hup2 hclone
    go_wp2
    go_loop [22] (fun i => ∃ k : Nat, k ≤ times.length + 1 ∧ i = .int .i64 k ∧ Hid ((T.take k).all okTime = true)) (fun i => times.length + 1 - (intOf i).toNat)
    case atStart => exact ⟨0, Nat.zero_le _, rfl, by simp [Hid]⟩
    case round =>
      obtain ⟨k, hk, rfl, hall⟩ := hrel
      by_cases hlt : k < times.length + 1
      · obtain ⟨wr, hwr⟩ : ∃ wr : World, wr = w2 := ⟨_, rfl⟩
        subst hwr
        have hltT : k < T.length := by rw [hTl.out]; exact hlt
        obtain ⟨g, o, cx, rfl, hb0, hb1, rfl, hc⟩ := (hTs).at_ (by decide) hltT
        have c0 : wr.cell? ⟨g, o + k, none⟩ = some (.int .i64 T[k]) := by have := hc 0 _ rfl; rwa [show Enc.sz Int = 1 from rfl, Nat.mul_one] at this
        clear hc
        rcases ho : outB T[k] 0 86400000 with _ | _
        · have HS : Hid ((T.take (k + 1)).all okTime = true) := by
            simp only [Hid]; rw [take_snoc hltT, List.all_append, hall.out]; simp [okTime, ho]
          go_wp2_with (go_at_call 57; refine (outside_any _ _ _ _).mono ?_; rintro e w' ⟨rfl, rfl⟩)
          go_round
          case rel => exact ⟨k + 1, by omega, by go_num, HS⟩
          case measure => simp [intOf]; omega
        · have HF : Hid (1 = timesF times least) := by
            have h1 : okTime T[k] = false := by simp [okTime, ho]
            obtain rfl := hTd.out
            exact (timesF_bad h5 hltT h1).symm
          have HD : Hid (slowed times least = [] ∧ grown times least = 0) := by simp only [Hid, slowed, grown]; rw [if_pos (by rw [← HF.out]; simp), if_pos (by rw [← HF.out]; simp)]; exact ⟨rfl, rfl⟩
          go_wp2_with (go_at_call 57; refine (outside_any _ _ _ _).mono ?_; rintro e w' ⟨rfl, rfl⟩)
          go_ret3
          exact ⟨none, 0, by rw [HD.out.1, HD.out.2, ← HF.out]; rfl, by rw [HD.out.1]; exact Own.nil _ _ _, hg2⟩
      · have HF : Hid (0 = timesF times least) := by
          have h1 := hall.out
          rw [List.take_of_length_le (by rw [hTl.out]; omega), hTd.out] at h1
          exact (timesF_good h5 h1).symm
        obtain ⟨hm5, hok, hle⟩ := timesF_zero HF.out.symm
        replace hok := hide hok
        have HD : Hid (slowed times least = slowTo times least ∧ grown times least = growTo times least) := by simp only [Hid, slowed, grown]; rw [if_neg (by rw [← HF.out]; simp), if_neg (by rw [← HF.out]; simp)]; exact ⟨rfl, rfl⟩
        clear hTs hTl hTd hall
        go_wp2_with fail
        go_loopw [9, 10, 31] (fun o m i wr => ∃ (k : Nat) (out : List Int) (A' : Option Addr) (c' : Nat), k ≤ times.length ∧ i = .int .i64 k ∧ m = .int .i64 (growTo (times.take k) least) ∧ o = .slice A' out.length c' ∧ Hid (out = slowTo (times.take k) least) ∧ Own wr w.heap.size 3 A' c' out ∧ w.grownBy wr none) (fun _ _ i _ => times.length - (intOf i).toNat)
        case atStart => exact ⟨0, [], none, 0, Nat.zero_le _, rfl, rfl, rfl, rfl, Own.nil _ _ _, hg2⟩
        case round =>
          obtain ⟨k, out, A', c', hk, rfl, rfl, rfl, hout, hown, hg⟩ := hrel
          have hol : out.length = k := by rw [hout.out]; simp [slowTo]; omega
          by_cases hlt : k < times.length
          · obtain ⟨g, o, cx, rfl, hb0, hb1, rfl, hc⟩ := (hl.pure hg).at_ (by decide) hlt
            have c0 : wr.cell? ⟨g, o + k, none⟩ = some (.int .i64 times[k]) := by have := hc 0 _ rfl; rwa [show Enc.sz Int = 1 from rfl, Nat.mul_one] at this
            clear hc
            have hok1 : 0 ≤ times[k] ∧ times[k] ≤ 86400000 := by
              have := hok.out; rw [List.all_eq_true] at this
              have := this _ (List.getElem_mem hlt)
              simp [okTime] at this
              exact outB_false this
            have hgb := growTo_bd (times.take k) least (all_take hok.out k) hle
            have hlk : (times.take k).length ≤ 5000 := by rw [List.length_take]; omega
            have hgb2 : growTo (times.take k) least ≤ 432000000000 := by have := hgb.2; omega
            have hgb1 := hgb.1
            have HS : Hid (out ++ [max times[k] least] = slowTo (times.take (k + 1)) least) := by simp only [Hid]; rw [take_snoc hlt, slowTo_snoc, hout.out]
            have HG : Hid (growTo (times.take (k + 1)) least = growTo (times.take k) least + (max times[k] least - times[k])) := by simp only [Hid]; rw [take_snoc hlt, growTo_snoc]
            replace hol := hide hol
            clear hgb hlk
            by_cases hcm : times[k] < least
            · rw [show max times[k] least = least by omega] at HS HG
              go_wp2_with (at_builtin; refine wpList_push (α := Int) _ rfl (.tmp 35) (.tmp 39) _ rfl w.heap.size 3 i0 _ 8 Tryz.underlying22 hi hz h1 h2 rfl _ _ _ out rfl ?c1 (by exact (hown.pure (by repeat (first | exact World.grownBy.refl _ _ | assumption | refine gr_alloc ?_ _ | refine gr_drewN ?_ _ | refine gr_drew ?_)))) 0 ⟨_, 0, none⟩ 1 1 [least] rfl rfl (by exact sl_int1 _ _ _ _ (by first | rfl | simp)) ?c2 ?c3 ?c4 ?_)
              case c1 => rfl
              case c2 => rw [hol.out]; first | omega | (simp; omega)
              case c3 => rw [hol.out]; first | (simp [maxLen]; omega) | (unfold maxLen; omega)
              case c4 => have := hg.size; first | omega | (simp; omega)
              intro A5 c5 w5 hown5 hup5
              go_wp2
              go_roundw
              case rel => exact ⟨k + 1, _, A5, c5, by omega, by go_num, (by rw [HG.out]; try (congr 1; omega)), by simp, HS, hown5, hup5.gr (Nat.le_refl _) (gr_alloc hg _)⟩
              case measure => simp [intOf]; omega
            · rw [show max times[k] least = times[k] by omega] at HS HG
              have hcm' : least ≤ times[k] := by omega
              go_wp2_with (at_builtin; refine wpList_push (α := Int) _ rfl (.tmp 35) (.tmp 39) _ rfl w.heap.size 3 i0 _ 8 Tryz.underlying22 hi hz h1 h2 rfl _ _ _ out rfl ?c1 (by exact (hown.pure (by repeat (first | exact World.grownBy.refl _ _ | assumption | refine gr_alloc ?_ _ | refine gr_drewN ?_ _ | refine gr_drew ?_)))) 0 ⟨_, 0, none⟩ 1 1 [times[k]] rfl rfl (by exact sl_int1 _ _ _ _ (by first | rfl | simp)) ?c2 ?c3 ?c4 ?_)
              case c1 => rfl
              case c2 => rw [hol.out]; first | omega | (simp; omega)
              case c3 => rw [hol.out]; first | (simp [maxLen]; omega) | (unfold maxLen; omega)
              case c4 => have := hg.size; first | omega | (simp; omega)
              intro A5 c5 w5 hown5 hup5
              go_wp2
              go_roundw
              case rel => exact ⟨k + 1, _, A5, c5, by omega, by go_num, (by rw [HG.out]; try (congr 1; omega)), by simp, HS, hown5, hup5.gr (Nat.le_refl _) (gr_alloc hg _)⟩
              case measure => simp [intOf]; omega
          · have hfin : out = slowTo times least ∧ growTo (times.take k) least = growTo times least := by
              have := hout.out
              rw [List.take_of_length_le (by omega)] at this ⊢
              exact ⟨this, rfl⟩
            clear hol hout
            replace hfin := hide hfin
            go_wp2
            (go_ret3; exact ⟨A', c', by rw [HD.out.1, HD.out.2, ← hfin.out.1, ← hfin.out.2, ← HF.out]; rfl, by rw [HD.out.1, ← hfin.out.1]; exact hown, hg⟩)

end Go.Proofs.YtlefdcodfjifcaaGreatDoor
