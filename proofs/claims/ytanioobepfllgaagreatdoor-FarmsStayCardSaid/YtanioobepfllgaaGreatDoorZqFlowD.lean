/- Contracts of functions that this seat's laws reach, each: what one call returns and what it leaves in memory; no condition beyond each theorem's own hypotheses. -/
import Derived.Test.YtanioobepfllgaaGreatDoorZqPathA
import Derived.StillTailTactics
import Derived.Test.YtanioobepfllgaaGreatDoorZqFix
import Derived.Test.YtanioobepfllgaaGreatDoorZqTree
set_option linter.unusedVariables false
set_option linter.unusedSimpArgs false
namespace Go.Proofs.YtanioobepfllgaaGreatDoor
open Go.RowKit Go.Bl

set_option maxHeartbeats 400000 in
theorem equalInts_any (A B : Option Addr) (c d : Nat) (l m : List Int) (w : World) (hl : Sl w 0 A l) (hr : Sl w 0 B m) :
    Calls Tryz.prog 20 #[.slice A l.length c, .slice B m.length d] w fun e w' => e = .returned (.bool (eqB l m)) ∧ w.grownBy w' none := by
  have hm := hl.1
  unfold maxLen at hm
  have hm2 := hr.1
  unfold maxLen at hm2
  by_cases h : l.length = m.length
  · have hb : ((l.length : Int) != m.length) = false := by simp [h]
    have HL := hide h
    have hle : l.length ≤ m.length := by omega
    clear h
    go_enter Tryz.func20, Tryz.ntmps20
    go_wp2
    go_loopw [13] (fun i wr => ∃ k : Nat, k ≤ l.length ∧ i = .int .i64 k ∧ w.grownBy wr none ∧ Hid (l.take k = m.take k)) (fun i _ => l.length - (intOf i).toNat)
    case atStart => exact ⟨0, Nat.zero_le _, rfl, World.grownBy.refl _ _, rfl⟩
    case round =>
      obtain ⟨k, hk, rfl, hg, ht⟩ := hrel
      by_cases hlt : k < l.length
      · have hlt2 : k < m.length := by omega
        obtain ⟨g, o, cx, rfl, hb0, hb1, rfl, hc⟩ := (hl.pure hg).at_ (by decide) hlt
        have c0 : wr.cell? ⟨g, o + k, none⟩ = some (.int .i64 l[k]) := by have := hc 0 _ rfl; rwa [show Enc.sz Int = 1 from rfl, Nat.mul_one] at this
        obtain ⟨g2, o2, cx, rfl, hb2, hb3, rfl, hc2⟩ := (hr.pure hg).at_ (by decide) hlt2
        have c1 : wr.cell? ⟨g2, o2 + k, none⟩ = some (.int .i64 m[k]) := by have := hc2 0 _ rfl; rwa [show Enc.sz Int = 1 from rfl, Nat.mul_one] at this
        clear hc hc2
        have hi0 : (0 : Int) ≤ (k : Int) ∧ (k : Int) < l.length ∧ (k : Int) < m.length := by omega
        by_cases hz : l[k] = m[k]
        · have HS : Hid (l.take (k + 1) = m.take (k + 1)) := by simp only [Hid]; rw [take_snoc hlt, take_snoc hlt2, ht.out, hz]
          have hb : (l[k] != m[k]) = false := by simp [hz]
          clear hz
          go_wp2_with fail
          go_quiet (fail)
          go_wp2
          go_roundw
          case rel => exact ⟨k + 1, by omega, by go_num, gr_drewN hg _, HS⟩
          case measure => simp [intOf]; omega
        · have HS := hide (eqB_ne hlt hlt2 hz)
          have hb : (l[k] != m[k]) = true := by simp [hz]
          clear hz
          go_wp2_with fail
          go_quiet (fail)
          go_wp2
          go_ret
          exact ⟨ret_bool HS.out.symm, gr_drewN hg _⟩
      · have HS : Hid (eqB l m = true) := eqB_all HL.out (by have := ht.out; rwa [show k = l.length by omega] at this)
        go_wp2
        go_ret
        exact ⟨ret_bool HS.out.symm, hg⟩
  · have hb : ((l.length : Int) != m.length) = true := by simp; omega
    have HS := hide (eqB_len h)
    clear h
    go_enter Tryz.func20, Tryz.ntmps20
    go_wp2
    go_ret
    exact ⟨ret_bool HS.out.symm, World.grownBy.refl _ _⟩

end Go.Proofs.YtanioobepfllgaaGreatDoor

namespace Go.Proofs.YtanioobepfllgaaGreatDoor
open Go.RowKit Go.Bl

def pointsF (l : List Pt) : Int := if l.any farP then 1 else 0

theorem any_snoc {l : List Pt} {k : Nat} (h : k < l.length) : (l.take (k + 1)).any farP = ((l.take k).any farP || farP l[k]) := by rw [take_snoc h, List.any_append]; simp

theorem any_at {l : List Pt} {k : Nat} (h : k < l.length) (hf : farP l[k] = true) : l.any farP = true := List.any_eq_true.2 ⟨_, List.getElem_mem _, hf⟩

set_option maxHeartbeats 400000 in
theorem isFar_any (p : Pt) (w : World) :
    Calls Tryz.prog 113 #[.agg #[.int .i64 p.x, .int .i64 p.y]] w fun e w' => e = .returned (.bool (farP p)) ∧ w.grownBy w' none := by
  go_enter Tryz.func113, Tryz.ntmps113
  go_wp2_with (go_at_call 62; refine (outside_any _ _ _ _).mono ?_; rintro e w' ⟨rfl, rfl⟩)
  all_goals (go_ret; exact ⟨ret_bool (by simp [farP, *]), (by repeat (first | exact World.grownBy.refl _ _ | assumption | refine gr_alloc ?_ _ | refine gr_drewN ?_ _ | refine gr_drew ?_))⟩)

end Go.Proofs.YtanioobepfllgaaGreatDoor

namespace Go.Proofs.YtanioobepfllgaaGreatDoor
open Go.RowKit Go.Bl

end Go.Proofs.YtanioobepfllgaaGreatDoor

namespace Go.Proofs.YtanioobepfllgaaGreatDoor
open Go.RowKit Go.Bl

set_option maxHeartbeats 400000 in
theorem volumeGo_any (A : Option Addr) (c : Nat) (l : List Bead) (w : World) (hl : Sl w 0 A l) :
    Calls Tryz.prog 48 #[.slice A l.length c] w fun e w' => e = .returned (.tuple #[.int .i64 (volumeOf l), .int .i64 (fedFault l)]) ∧ w.grownBy w' none := by
  by_cases h : checkBeads l = 0
  · have hb : (checkBeads l != 0) = false := by simp [h]
    by_cases h3 : 1000000000000000000 < volW l
    · have HS : Hid (12 = fedFault l) := by simp [Hid, fedFault, h, h3]
      have HV : Hid (0 = volumeOf l) := by simp only [Hid, volumeOf]; rw [if_pos (by rw [← HS.out]; simp)]
      clear h
      go_enter Tryz.func48, Tryz.ntmps48
      go_wp2_with fail
      refine (checkBeads_any _ _ _ _ hl).mono ?_
      rintro e w1 ⟨rfl, hg⟩
      go_wp2_with fail
      refine (volume_any _ _ _ _ (hl.pure hg)).mono ?_
      rintro e w2 ⟨rfl, hg2⟩
      go_wp2_with fail
      go_ret2
      exact ⟨by rw [← HS.out, ← HV.out]; rfl, gr_trans hg hg2⟩
    · have HS : Hid (0 = fedFault l) := by simp [Hid, fedFault, h, h3]
      have HV : Hid (volW l = volumeOf l) := by simp only [Hid, volumeOf]; rw [if_neg (by rw [← HS.out]; simp)]
      clear h
      go_enter Tryz.func48, Tryz.ntmps48
      go_wp2_with fail
      refine (checkBeads_any _ _ _ _ hl).mono ?_
      rintro e w1 ⟨rfl, hg⟩
      go_wp2_with fail
      refine (volume_any _ _ _ _ (hl.pure hg)).mono ?_
      rintro e w2 ⟨rfl, hg2⟩
      go_wp2_with fail
      go_ret2
      exact ⟨by rw [← HS.out, ← HV.out]; rfl, gr_trans hg hg2⟩
  · have hb : (checkBeads l != 0) = true := by simp [h]
    have HS : Hid (checkBeads l = fedFault l) := by simp [Hid, fedFault, h]
    have HV : Hid (0 = volumeOf l) := by simp only [Hid, volumeOf]; rw [if_pos (by rw [← HS.out]; exact h)]
    clear h
    go_enter Tryz.func48, Tryz.ntmps48
    go_wp2_with fail
    refine (checkBeads_any _ _ _ _ hl).mono ?_
    rintro e w1 ⟨rfl, hg⟩
    go_wp2_with fail
    go_ret2
    exact ⟨by rw [← HS.out, ← HV.out]; rfl, hg⟩

def aBead : List Bead := [⟨10, 3, 2⟩]

end Go.Proofs.YtanioobepfllgaaGreatDoor
