/- Contracts of functions that this seat's laws reach, each: what one call returns and what it leaves in memory; no condition beyond each theorem's own hypotheses. -/
import Derived.Test.YtpdhbhlnopmifaaGreatDoorZqGeoE
import Derived.Test.YtpdhbhlnopmifaaGreatDoorZqSimpA
import Derived.Test.YtpdhbhlnopmifaaGreatDoorZqPathE
import Derived.Test.YtpdhbhlnopmifaaGreatDoorZqRegH
set_option linter.unusedVariables false
set_option linter.unusedSimpArgs false
namespace Go.Proofs.YtpdhbhlnopmifaaGreatDoor
open Go Go.RowKit Go.Bl

def tSq : List (List Pt) := [[⟨0, 0⟩, ⟨4, 0⟩, ⟨4, 4⟩, ⟨0, 4⟩]]

def tBead : List Bead := [⟨10, 3, 2⟩]

theorem t_reg : regF tSq = 0 := by decide

theorem t_area : areaT tSq = 32 := by
  unfold areaT
  rw [if_pos t_reg]
  decide

theorem t_vol : volumeOf tBead = 60 := by kernel_rfl

theorem t_fed : fedFault tBead = 0 := by kernel_rfl

set_option maxHeartbeats 1600000 in
theorem h06facts_any (w : World) : Calls Tryz.prog 10 #[] w fun e w' => e = .returned (.bool true) ∧ w.grownBy w' none := by
  go_enter Tryz.func10, Tryz.ntmps10
  go_wp2_with fail
  obtain ⟨W1, hW1⟩ : ∃ x, x = (w).alloc (.cells #[.int .i64 10, .int .i64 3, .int .i64 2] 77) := ⟨_, rfl⟩
  have hs1 : Sl W1 0 (some ⟨(w).heap.size, 0, none⟩) (tBead) := by rw [hW1]; exact sl_oneAt w 0 [.int .i64 10, .int .i64 3, .int .i64 2] _ _ _ rfl (Nat.zero_le _) rfl
  have hg1 : (w).grownBy W1 none := by rw [hW1]; exact gr_alloc (World.grownBy.refl _ _) _
  have hz1 : (w).heap.size + 1 = W1.heap.size := by rw [hW1]; simp
  rw [← hW1]
  try rw [hz1]
  clear hW1
  have hV := volumeGo_any (some ⟨w.heap.size, 0, none⟩) 1 tBead W1 hs1
  rw [t_vol, t_fed] at hV
  refine hV.mono ?_
  rintro e w2 ⟨rfl, h2⟩
  have hgw := gr_trans hg1 h2
  clear hV hs1 hg1 h2 hz1
  go_wp2_with fail
  obtain ⟨W3, hW3⟩ : ∃ x, x = w2.alloc (.cells #[.int .i64 0, .int .i64 0, .int .i64 4, .int .i64 0, .int .i64 4, .int .i64 4, .int .i64 0, .int .i64 4] 81) := ⟨_, rfl⟩
  have hs3 : Sl W3 0 (some ⟨w2.heap.size, 0, none⟩) ([⟨0, 0⟩, ⟨4, 0⟩, ⟨4, 4⟩, ⟨0, 4⟩] : List Pt) := by
    rw [hW3]
    exact sl_lit w2 0 [.int .i64 0, .int .i64 0, .int .i64 4, .int .i64 0, .int .i64 4, .int .i64 4, .int .i64 0, .int .i64 4] _ _ (Nat.zero_le _) (by simp [maxLen]) ⟨_, _, rfl, rfl, _, _, rfl, rfl, _, _, rfl, rfl, _, [], rfl, rfl, rfl⟩
  have hg3 : w2.grownBy W3 none := by rw [hW3]; exact gr_alloc (World.grownBy.refl _ _) _
  have hz3 : w2.heap.size + 1 = W3.heap.size := by rw [hW3]; simp
  rw [← hW3, hz3]
  clear hW3
  obtain ⟨W4, hW4⟩ : ∃ x, x = W3.alloc (.cells #[.slice (some ⟨w2.heap.size, 0, none⟩) 4 4] 83) := ⟨_, rfl⟩
  have hg4 : W3.grownBy W4 none := by rw [hW4]; exact gr_alloc (World.grownBy.refl _ _) _
  have hs4 : Sl W4 0 (some ⟨W3.heap.size, 0, none⟩) tSq := by
    rw [hW4]
    exact sl_lit W3 0 [.slice (some ⟨w2.heap.size, 0, none⟩) 4 4] _ _ (Nat.zero_le _) (by simp [maxLen, tSq]) ⟨_, [], rfl, ⟨_, 4, rfl, Nat.le_refl _, by rw [← hW4]; exact hs3.pure hg4⟩, rfl⟩
  rw [← hW4]
  clear hW4
  replace hgw := gr_trans hgw (gr_trans hg3 hg4)
  have hA := area_any (some ⟨W3.heap.size, 0, none⟩) 1 tSq W4 hs4 (by decide)
  rw [t_area, t_reg] at hA
  clear hs3 hs4 hg3 hg4 hz3
  refine hA.mono ?_
  rintro e w5 ⟨rfl, h5⟩
  go_wp2_with fail
  go_ret
  exact ⟨rfl, gr_trans hgw h5⟩

end Go.Proofs.YtpdhbhlnopmifaaGreatDoor
