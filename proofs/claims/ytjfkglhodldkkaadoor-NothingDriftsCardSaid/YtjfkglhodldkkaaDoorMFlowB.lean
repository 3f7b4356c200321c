/- Contracts of functions that this seat's laws reach, each: what one call returns and what it leaves in memory; no condition beyond each theorem's own hypotheses. -/
import Derived.Test.YtjfkglhodldkkaaDoorMFlowA
import Derived.StillTailTactics
set_option linter.unusedVariables false
set_option linter.unusedSimpArgs false
namespace Go.Proofs.YtjfkglhodldkkaaDoor
open Go.RowKit Go.Bl

set_option maxHeartbeats 400000 in
theorem areaFault_any (A : Option Addr) (c : Nat) (l : List Bead) (area : Int) (w : World) (hl : Sl w 0 A l) :
    Calls Tryd.prog 25 #[.slice A l.length c, .int .i64 area] w fun e w' => e = .returned (.int .i64 (areaFault l area)) ∧ w.grownBy w' none := by
  by_cases h : checkBeads l = 0
  · have hb : (checkBeads l != 0) = false := by simp [h]
    rcases h2 : outB area 1 100000000 with _ | _
    · by_cases h3 : 1000000000000000000 < volW l
      · have HS : Hid (12 = areaFault l area) := by simp [Hid, areaFault, h, h2, h3]
        clear h
        go_enter Tryd.func25, Tryd.ntmps25
        go_wp2_with fail
        refine (checkBeads_any _ _ _ _ hl).mono ?_
        rintro e w1 ⟨rfl, hg⟩
        go_wp2_with fail
        refine (outside_any _ _ _ _).mono ?_
        rintro e w2 ⟨rfl, rfl⟩
        go_wp2_with fail
        refine (volume_any _ _ _ _ (hl.pure hg)).mono ?_
        rintro e w2 ⟨rfl, hg2⟩
        go_wp2_with fail
        go_ret
        exact ⟨ret_int HS.out, gr_trans hg hg2⟩
      · have HS : Hid (0 = areaFault l area) := by simp [Hid, areaFault, h, h2, h3]
        clear h
        go_enter Tryd.func25, Tryd.ntmps25
        go_wp2_with fail
        refine (checkBeads_any _ _ _ _ hl).mono ?_
        rintro e w1 ⟨rfl, hg⟩
        go_wp2_with fail
        refine (outside_any _ _ _ _).mono ?_
        rintro e w2 ⟨rfl, rfl⟩
        go_wp2_with fail
        refine (volume_any _ _ _ _ (hl.pure hg)).mono ?_
        rintro e w2 ⟨rfl, hg2⟩
        go_wp2_with fail
        go_ret
        exact ⟨ret_int HS.out, gr_trans hg hg2⟩
    · have HS : Hid (1 = areaFault l area) := by simp [Hid, areaFault, h, h2]
      clear h
      go_enter Tryd.func25, Tryd.ntmps25
      go_wp2_with fail
      refine (checkBeads_any _ _ _ _ hl).mono ?_
      rintro e w1 ⟨rfl, hg⟩
      go_wp2_with fail
      refine (outside_any _ _ _ _).mono ?_
      rintro e w2 ⟨rfl, rfl⟩
      go_wp2_with fail
      go_ret
      exact ⟨ret_int HS.out, hg⟩
  · have hb : (checkBeads l != 0) = true := by simp [h]
    have HS : Hid (checkBeads l = areaFault l area) := by simp [Hid, areaFault, h]
    clear h
    go_enter Tryd.func25, Tryd.ntmps25
    go_wp2_with fail
    refine (checkBeads_any _ _ _ _ hl).mono ?_
    rintro e w1 ⟨rfl, hg⟩
    go_wp2_with fail
    go_ret
    exact ⟨ret_int HS.out, hg⟩

end Go.Proofs.YtjfkglhodldkkaaDoor
