/- Contracts of functions that this seat's laws reach, each: what one call returns and what it leaves in memory; no condition beyond each theorem's own hypotheses. -/
import Derived.Test.YtlefdcodfjifcaaGreatDoorMFlowB
import Derived.Test.YtlefdcodfjifcaaGreatDoorMTree
set_option linter.unusedVariables false
set_option linter.unusedSimpArgs false
namespace Go.Proofs.YtlefdcodfjifcaaGreatDoor
open Go.RowKit Go.Bl

set_option maxHeartbeats 1000000 in
theorem positions_any (A : Option Addr) (c : Nat) (l : List Bead) (area : Int) (w : World) (hl : Sl w 0 A l) :
    Calls Tryz.prog 25 #[.slice A l.length c, .int .i64 area] w fun e w' => ∃ A' c', e = .returned (.tuple #[.slice A' (positions l area).length c', .int .i64 (areaFault l area)]) ∧ Own w' w.heap.size 3 A' c' (positions l area) ∧ w.grownBy w' none := by
  by_cases h : areaFault l area = 0
  · obtain ⟨hm, hok, ha1, ha2, hv⟩ := areaFault_zero h
    have hok := hide hok
    have hb : (areaFault l area != 0) = false := by simp [h]
    have HF := hide h
    have HP : Hid (positions l area = posOf l area l.length) := by simp only [Hid, positions]; rw [if_neg (by simp [h])]
    clear h
    obtain ⟨i0, hi, hz, h1, h2⟩ := info_parts info_int
    go_enter Tryz.func25, Tryz.ntmps25
    go_wp2_with fail
    refine (areaFault_any _ _ _ _ _ hl).mono ?_
    rintro e w1 ⟨rfl, hg1⟩
    go_wp2_with fail
    go_loopw [7, 8, 19] (fun o n i wr => ∃ (k : Nat) (A' : Option Addr) (c' : Nat), k ≤ l.length ∧ i = .int .i64 k ∧ n = .int .i64 (vol (l.take k)) ∧ o = .slice A' k c' ∧ Own wr w.heap.size 3 A' c' (posOf l area k) ∧ w.grownBy wr none) (fun _ _ i _ => l.length - (intOf i).toNat)
    case atStart => exact ⟨0, none, 0, Nat.zero_le _, rfl, rfl, rfl, Own.nil _ _ _, hg1⟩
    case round =>
      obtain ⟨k, A', c', hk, rfl, rfl, rfl, hown, hg⟩ := hrel
      by_cases hlt : k < l.length
      · obtain ⟨g, o, cx, rfl, hb0, hb1, rfl, hc⟩ := (hl.pure hg).at_ (by decide) hlt
        have c0 : wr.cell? ⟨g, o + k * 3, none⟩ = some (.int .i64 l[k].long) := hc 0 _ rfl
        have c1 : wr.cell? ⟨g, o + k * 3 + 1, none⟩ = some (.int .i64 l[k].wide) := hc 1 _ rfl
        have c2 : wr.cell? ⟨g, o + k * 3 + 2, none⟩ = some (.int .i64 l[k].high) := hc 2 _ rfl
        clear hc
        have hox := all_take hok.out (k + 1)
        have hokk : okBead l[k] = true := by have := hok.out; rw [List.all_eq_true] at this; exact this _ (List.getElem_mem _)
        have hp : wrap64 (wrap64 (l[k].long * l[k].wide) * l[k].high) = bw l[k] := bv_eq hokk
        have hbw := (bw_bd hokk).2
        have hvs : Hid (vol (l.take (k + 1)) = vol (l.take k) + bw l[k]) := by simp only [Hid]; rw [take_snoc hlt, vol_snoc]
        have hv0 := (vol_bd _ (all_take hok.out k)).1
        have hv1 := vol_take_le l hok.out (k + 1)
        rw [hvs.out] at hv1
        clear hox hokk
        have hps : Hid (posOf l area (k + 1) = posOf l area k ++ [(2 * (vol (l.take k) + bw l[k]) + area) / (2 * area)]) := by simp only [Hid]; rw [posOf_succ, hvs.out]
        go_wp2_with (at_builtin; refine wpList_push (α := Int) _ rfl (.tmp 33) (.tmp 41) _ rfl w.heap.size 3 i0 _ 8 Tryz.underlying22 hi hz h1 h2 rfl _ _ _ (posOf l area k) rfl ?c1 (by exact (hown.pure (by repeat (first | exact World.grownBy.refl _ _ | assumption | refine gr_alloc ?_ _ | refine gr_drewN ?_ _ | refine gr_drew ?_)))) 0 ⟨_, 0, none⟩ 1 1 [(2 * (vol (l.take k) + bw l[k]) + area) / (2 * area)] rfl rfl (by exact sl_int1 _ _ _ _ (by first | rfl | simp)) ?c2 ?c3 ?c4 ?_)
        case c1 => rw [posOf_len]
        case c2 => rw [posOf_len]; simp; omega
        case c3 => rw [posOf_len]; simp [maxLen]; omega
        case c4 => simp; have := hg.size; omega
        intro A2 c2 w2 hown2 hup2
        rw [← hps.out] at hown2
        go_wp2
        go_roundw
        case rel => exact ⟨k + 1, A2, c2, by omega, by go_num, by rw [hvs.out], by simp [posOf_len], hown2, hup2.gr (Nat.le_refl _) (gr_alloc (gr_alloc hg _) _)⟩
        case measure => simp [intOf]; omega
      · have hkl : k = l.length := by omega
        subst hkl
        go_wp2
        go_ret2
        refine ⟨A', c', ?_, by rw [HP.out]; exact hown, hg⟩
        rw [HP.out, posOf_len, HF.out]
        rfl
  · have hb : (areaFault l area != 0) = true := by simp [h]
    have HP : Hid (positions l area = []) := by simp only [Hid, positions]; rw [if_pos h]
    clear h
    go_enter Tryz.func25, Tryz.ntmps25
    go_wp2_with fail
    refine (areaFault_any _ _ _ _ _ hl).mono ?_
    rintro e w1 ⟨rfl, hg1⟩
    go_wp2_with fail
    go_ret2
    exact ⟨none, 0, by rw [HP.out]; rfl, by rw [HP.out]; exact Own.nil _ _ _, hg1⟩

end Go.Proofs.YtlefdcodfjifcaaGreatDoor

namespace Go.Proofs.YtlefdcodfjifcaaGreatDoor
open Go.RowKit Go.Bl

set_option maxHeartbeats 400000 in
theorem volumeGo_any (A : Option Addr) (c : Nat) (l : List Bead) (w : World) (hl : Sl w 0 A l) :
    Calls Tryz.prog 49 #[.slice A l.length c] w fun e w' => e = .returned (.tuple #[.int .i64 (volumeOf l), .int .i64 (fedFault l)]) ∧ w.grownBy w' none := by
  by_cases h : checkBeads l = 0
  · have hb : (checkBeads l != 0) = false := by simp [h]
    by_cases h3 : 1000000000000000000 < volW l
    · have HS : Hid (12 = fedFault l) := by simp [Hid, fedFault, h, h3]
      have HV : Hid (0 = volumeOf l) := by simp only [Hid, volumeOf]; rw [if_pos (by rw [← HS.out]; simp)]
      clear h
      go_enter Tryz.func49, Tryz.ntmps49
      go_wp2_with fail
      refine (checkBeads_any _ _ _ _ hl).mono ?_
      rintro e w1 ⟨rfl, hg⟩
      go_wp2_with fail
      refine (volume_any _ _ _ _ (hl.pure hg)).mono ?_
      rintro e w2 ⟨rfl, hg2⟩
      go_wp2_with fail
      go_ret2
      exact ⟨by rw [← HS.out, ← HV.out]; rfl, gr_trans hg hg2⟩
    · have HS : Hid (0 = fedFault l) := by simp [Hid, fedFault, h, h3]
      have HV : Hid (volW l = volumeOf l) := by simp only [Hid, volumeOf]; rw [if_neg (by rw [← HS.out]; simp)]
      clear h
      go_enter Tryz.func49, Tryz.ntmps49
      go_wp2_with fail
      refine (checkBeads_any _ _ _ _ hl).mono ?_
      rintro e w1 ⟨rfl, hg⟩
      go_wp2_with fail
      refine (volume_any _ _ _ _ (hl.pure hg)).mono ?_
      rintro e w2 ⟨rfl, hg2⟩
      go_wp2_with fail
      go_ret2
      exact ⟨by rw [← HS.out, ← HV.out]; rfl, gr_trans hg hg2⟩
  · have hb : (checkBeads l != 0) = true := by simp [h]
    have HS : Hid (checkBeads l = fedFault l) := by simp [Hid, fedFault, h]
    have HV : Hid (0 = volumeOf l) := by simp only [Hid, volumeOf]; rw [if_pos (by rw [← HS.out]; exact h)]
    clear h
    go_enter Tryz.func49, Tryz.ntmps49
    go_wp2_with fail
    refine (checkBeads_any _ _ _ _ hl).mono ?_
    rintro e w1 ⟨rfl, hg⟩
    go_wp2_with fail
    go_ret2
    exact ⟨by rw [← HS.out, ← HV.out]; rfl, hg⟩

def aBead : List Bead := [⟨10, 3, 2⟩]

end Go.Proofs.YtlefdcodfjifcaaGreatDoor
