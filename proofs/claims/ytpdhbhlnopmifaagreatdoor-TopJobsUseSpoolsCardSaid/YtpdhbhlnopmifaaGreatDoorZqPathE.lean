/- Contracts of functions that this seat's laws reach, each: what one call returns and what it leaves in memory; no condition beyond each theorem's own hypotheses. -/
import Derived.Test.YtpdhbhlnopmifaaGreatDoorZqPathA
import Derived.StillTailTactics
import Derived.Test.YtpdhbhlnopmifaaGreatDoorZqHead
import Derived.Test.YtpdhbhlnopmifaaGreatDoorZqMostData
set_option linter.unusedVariables false
set_option linter.unusedSimpArgs false
namespace Go.Proofs.YtpdhbhlnopmifaaGreatDoor
open Go.RowKit Go.Bl

end Go.Proofs.YtpdhbhlnopmifaaGreatDoor

namespace Go.Proofs.YtpdhbhlnopmifaaGreatDoor
open Go.RowKit Go.Bl

def pointsF (l : List Pt) : Int := if l.any farP then 1 else 0

theorem any_snoc {l : List Pt} {k : Nat} (h : k < l.length) : (l.take (k + 1)).any farP = ((l.take k).any farP || farP l[k]) := by rw [take_snoc h, List.any_append]; simp

theorem any_at {l : List Pt} {k : Nat} (h : k < l.length) (hf : farP l[k] = true) : l.any farP = true := List.any_eq_true.2 ⟨_, List.getElem_mem _, hf⟩

set_option maxHeartbeats 400000 in
theorem isFar_any (p : Pt) (w : World) :
    Calls Tryz.prog 113 #[.agg #[.int .i64 p.x, .int .i64 p.y]] w fun e w' => e = .returned (.bool (farP p)) ∧ w.grownBy w' none := by
  go_enter Tryz.func113, Tryz.ntmps113
  go_wp2_with (go_at_call 38; refine (outside_any _ _ _ _).mono ?_; rintro e w' ⟨rfl, rfl⟩)
  all_goals (go_ret; exact ⟨ret_bool (by simp [farP, *]), (by repeat (first | exact World.grownBy.refl _ _ | assumption | refine gr_alloc ?_ _ | refine gr_drewN ?_ _ | refine gr_drew ?_))⟩)

end Go.Proofs.YtpdhbhlnopmifaaGreatDoor

namespace Go.Proofs.YtpdhbhlnopmifaaGreatDoor
open Go.RowKit Go.Bl

end Go.Proofs.YtpdhbhlnopmifaaGreatDoor

namespace Go.Proofs.YtpdhbhlnopmifaaGreatDoor
open Go.RowKit Go.Bl

set_option maxHeartbeats 400000 in
theorem volumeGo_any (A : Option Addr) (c : Nat) (l : List Bead) (w : World) (hl : Sl w 0 A l) :
    Calls Tryz.prog 33 #[.slice A l.length c] w fun e w' => e = .returned (.tuple #[.int .i64 (volumeOf l), .int .i64 (fedFault l)]) ∧ w.grownBy w' none := by
  by_cases h : checkBeads l = 0
  · have hb : (checkBeads l != 0) = false := by simp [h]
    by_cases h3 : 1000000000000000000 < volW l
    · have HS : Hid (12 = fedFault l) := by simp [Hid, fedFault, h, h3]
      have HV : Hid (0 = volumeOf l) := by simp only [Hid, volumeOf]; rw [if_pos (by rw [← HS.out]; simp)]
      clear h
      go_enter Tryz.func33, Tryz.ntmps33
      go_wp2_with fail
      refine (checkBeads_any _ _ _ _ hl).mono ?_
      rintro e w1 ⟨rfl, hg⟩
      go_wp2_with fail
      refine (volume_any _ _ _ _ (hl.pure hg)).mono ?_
      rintro e w2 ⟨rfl, hg2⟩
      go_wp2_with fail
      go_ret2
      exact ⟨by rw [← HS.out, ← HV.out]; rfl, gr_trans hg hg2⟩
    · have HS : Hid (0 = fedFault l) := by simp [Hid, fedFault, h, h3]
      have HV : Hid (volW l = volumeOf l) := by simp only [Hid, volumeOf]; rw [if_neg (by rw [← HS.out]; simp)]
      clear h
      go_enter Tryz.func33, Tryz.ntmps33
      go_wp2_with fail
      refine (checkBeads_any _ _ _ _ hl).mono ?_
      rintro e w1 ⟨rfl, hg⟩
      go_wp2_with fail
      refine (volume_any _ _ _ _ (hl.pure hg)).mono ?_
      rintro e w2 ⟨rfl, hg2⟩
      go_wp2_with fail
      go_ret2
      exact ⟨by rw [← HS.out, ← HV.out]; rfl, gr_trans hg hg2⟩
  · have hb : (checkBeads l != 0) = true := by simp [h]
    have HS : Hid (checkBeads l = fedFault l) := by simp [Hid, fedFault, h]
    have HV : Hid (0 = volumeOf l) := by simp only [Hid, volumeOf]; rw [if_pos (by rw [← HS.out]; exact h)]
    clear h
    go_enter Tryz.func33, Tryz.ntmps33
    go_wp2_with fail
    refine (checkBeads_any _ _ _ _ hl).mono ?_
    rintro e w1 ⟨rfl, hg⟩
    go_wp2_with fail
    go_ret2
    exact ⟨by rw [← HS.out, ← HV.out]; rfl, hg⟩

def aBead : List Bead := [⟨10, 3, 2⟩]

end Go.Proofs.YtpdhbhlnopmifaaGreatDoor

namespace Go.Proofs.YtpdhbhlnopmifaaGreatDoor
open Go.RowKit Go.Bl

def SBeads (b : Nat) (N : Int) (w : World) (e : Ending) (w' : World) : Prop := ∃ (l : List Bead) (A : Option Addr) (c : Nat), e = .returned (.slice A l.length c) ∧ Own w' w.heap.size 77 A c l ∧ l.length ≤ 6 ∧ SOut b N w w'

end Go.Proofs.YtpdhbhlnopmifaaGreatDoor

namespace Go.Proofs.YtpdhbhlnopmifaaGreatDoor
open Go.RowKit Go.Bl

end Go.Proofs.YtpdhbhlnopmifaaGreatDoor

namespace Go.Proofs.YtpdhbhlnopmifaaGreatDoor
open Go.RowKit Go.Bl

end Go.Proofs.YtpdhbhlnopmifaaGreatDoor
