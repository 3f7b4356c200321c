/- Contracts of functions that this seat's laws reach, each: what one call returns and what it leaves in memory; no condition beyond each theorem's own hypotheses. -/
import Derived.Test.YtejmbaiioblfeaaGreatDoorZqRegH
import Derived.Test.YtejmbaiioblfeaaGreatDoorZqFarmK
import Derived.Test.YtejmbaiioblfeaaGreatDoorZqFlowD
set_option linter.unusedVariables false
set_option linter.unusedSimpArgs false
namespace Go.Proofs.YtejmbaiioblfeaaGreatDoor
open Go Go.RowKit Go.Bl

def rPrn : List Prn := [⟨⟨#[112]⟩, ⟨#[97]⟩⟩]

def rJob : List Jb := [⟨⟨#[106]⟩, ⟨#[98]⟩, 20, 0⟩]

def rSq : List (List Pt) := [[⟨0, 0⟩, ⟨4, 0⟩, ⟨4, 4⟩, ⟨0, 4⟩]]

def rBead : List Bead := [⟨10, 3, 2⟩]

theorem r_fault : plannedF rPrn rJob [[0]] 5 = 0 := by decide

theorem r_ends : endsL rPrn rJob [[0]] 5 = [25] := by
  unfold endsL
  rw [if_pos r_fault]
  decide

theorem r_end : endsN rPrn rJob [[0]] 5 = 25 := by
  unfold endsN
  rw [if_pos r_fault]
  decide

theorem r_reg : regF rSq = 0 := by decide

theorem r_area : areaT rSq = 32 := by
  unfold areaT
  rw [if_pos r_reg]
  decide

theorem r_vol : volumeOf rBead = 60 := by kernel_rfl

theorem r_fed : fedFault rBead = 0 := by kernel_rfl

set_option maxHeartbeats 1600000 in
theorem ready_any (w : World) : Calls Tryz.prog 17 #[] w fun e w' => e = .returned (.bool true) ∧ w.grownBy w' none := by
  go_enter Tryz.func17, Tryz.ntmps17
  go_wp2_with fail
  obtain ⟨W1, hW1⟩ : ∃ x, x = (w).alloc (.cells #[.int .i64 10, .int .i64 3, .int .i64 2] 72) := ⟨_, rfl⟩
  have hs1 : Sl W1 0 (some ⟨(w).heap.size, 0, none⟩) (rBead) := by rw [hW1]; exact sl_oneAt w 0 [.int .i64 10, .int .i64 3, .int .i64 2] _ _ _ rfl (Nat.zero_le _) rfl
  have hg1 : (w).grownBy W1 none := by rw [hW1]; exact gr_alloc (World.grownBy.refl _ _) _
  have hz1 : (w).heap.size + 1 = W1.heap.size := by rw [hW1]; simp
  rw [← hW1]
  try rw [hz1]
  clear hW1
  have hV := volumeGo_any (some ⟨w.heap.size, 0, none⟩) 1 rBead W1 hs1
  rw [r_vol, r_fed] at hV
  refine hV.mono ?_
  rintro e w2 ⟨rfl, h2⟩
  have hgw := gr_trans hg1 h2
  clear hV hs1 hg1 h2 hz1
  go_wp2_with fail
  obtain ⟨W3, hW3⟩ : ∃ x, x = w2.alloc (.cells #[.int .i64 0, .int .i64 0, .int .i64 4, .int .i64 0, .int .i64 4, .int .i64 4, .int .i64 0, .int .i64 4] 29) := ⟨_, rfl⟩
  have hs3 : Sl W3 0 (some ⟨w2.heap.size, 0, none⟩) ([⟨0, 0⟩, ⟨4, 0⟩, ⟨4, 4⟩, ⟨0, 4⟩] : List Pt) := by
    rw [hW3]
    exact sl_lit w2 0 [.int .i64 0, .int .i64 0, .int .i64 4, .int .i64 0, .int .i64 4, .int .i64 4, .int .i64 0, .int .i64 4] _ _ (Nat.zero_le _) (by simp [maxLen]) ⟨_, _, rfl, rfl, _, _, rfl, rfl, _, _, rfl, rfl, _, [], rfl, rfl, rfl⟩
  have hg3 : w2.grownBy W3 none := by rw [hW3]; exact gr_alloc (World.grownBy.refl _ _) _
  have hz3 : w2.heap.size + 1 = W3.heap.size := by rw [hW3]; simp
  rw [← hW3, hz3]
  clear hW3
  obtain ⟨W4, hW4⟩ : ∃ x, x = W3.alloc (.cells #[.slice (some ⟨w2.heap.size, 0, none⟩) 4 4] 36) := ⟨_, rfl⟩
  have hg4 : W3.grownBy W4 none := by rw [hW4]; exact gr_alloc (World.grownBy.refl _ _) _
  have hs4 : Sl W4 0 (some ⟨W3.heap.size, 0, none⟩) rSq := by
    rw [hW4]
    exact sl_lit W3 0 [.slice (some ⟨w2.heap.size, 0, none⟩) 4 4] _ _ (Nat.zero_le _) (by simp [maxLen, rSq]) ⟨_, [], rfl, ⟨_, 4, rfl, Nat.le_refl _, by rw [← hW4]; exact hs3.pure hg4⟩, rfl⟩
  rw [← hW4]
  clear hW4
  replace hgw := gr_trans hgw (gr_trans hg3 hg4)
  have hA := area_any (some ⟨W3.heap.size, 0, none⟩) 1 rSq W4 hs4 (by decide)
  rw [r_area, r_reg] at hA
  clear hs3 hs4 hg3 hg4 hz3
  refine hA.mono ?_
  rintro e w5 ⟨rfl, h5⟩
  replace hgw := gr_trans hgw h5
  clear hA h5
  go_wp2_with fail
  obtain ⟨W6, hW6⟩ : ∃ x, x = w5.alloc (.cells #[.string ⟨#[112]⟩, .string ⟨#[97]⟩] 77) := ⟨_, rfl⟩
  have hP1 : Sl W6 0 (some ⟨w5.heap.size, 0, none⟩) rPrn := by rw [hW6]; exact sl_oneAt w5 0 [.string ⟨#[112]⟩, .string ⟨#[97]⟩] _ _ _ rfl (Nat.zero_le _) rfl
  have hg1 : w5.grownBy W6 none := by rw [hW6]; exact gr_alloc (World.grownBy.refl _ _) _
  have hz1 : w5.heap.size + 1 = W6.heap.size := by rw [hW6]; simp
  rw [← hW6, hz1]
  clear hW6
  obtain ⟨W7, hW7⟩ : ∃ x, x = W6.alloc (.cells #[.string ⟨#[106]⟩, .string ⟨#[98]⟩, .int .i64 20, .int .i64 0] 80) := ⟨_, rfl⟩
  have hJ2 : Sl W7 0 (some ⟨W6.heap.size, 0, none⟩) rJob := by rw [hW7]; exact sl_oneAt W6 0 [.string ⟨#[106]⟩, .string ⟨#[98]⟩, .int .i64 20, .int .i64 0] _ _ _ rfl (Nat.zero_le _) rfl
  have hg2 : W6.grownBy W7 none := by rw [hW7]; exact gr_alloc (World.grownBy.refl _ _) _
  have hz2 : W6.heap.size + 1 = W7.heap.size := by rw [hW7]; simp
  rw [← hW7, hz2]
  clear hW7
  obtain ⟨W8, hW8⟩ : ∃ x, x = W7.alloc (.cells #[.int .i64 0] 3) := ⟨_, rfl⟩
  have hI3 : Sl W8 0 (some ⟨W7.heap.size, 0, none⟩) [(0 : Int)] := by rw [hW8]; exact sl_oneAt W7 0 [.int .i64 0] _ _ _ rfl (Nat.zero_le _) rfl
  have hg3 : W7.grownBy W8 none := by rw [hW8]; exact gr_alloc (World.grownBy.refl _ _) _
  have hz3 : W7.heap.size + 1 = W8.heap.size := by rw [hW8]; simp
  rw [← hW8, hz3]
  clear hW8
  obtain ⟨W9, hW9⟩ : ∃ x, x = W8.alloc (.cells #[.slice (some ⟨W7.heap.size, 0, none⟩) 1 1] 22) := ⟨_, rfl⟩
  have hg4 : W8.grownBy W9 none := by rw [hW9]; exact gr_alloc (World.grownBy.refl _ _) _
  have hPl : Sl W9 0 (some ⟨W8.heap.size, 0, none⟩) [[(0 : Int)]] := by
    rw [hW9]
    exact sl_lit W8 0 [.slice (some ⟨W7.heap.size, 0, none⟩) 1 1] _ _ (Nat.zero_le _) (by simp [maxLen]) ⟨_, [], rfl, ⟨_, 1, rfl, Nat.le_refl _, by rw [← hW9]; exact hI3.pure hg4⟩, rfl⟩
  rw [← hW9]
  clear hW9 hI3
  replace hgw := gr_trans hgw (gr_trans (gr_trans (gr_trans hg1 hg2) hg3) hg4)
  have hE := endsTop_any (some ⟨w5.heap.size, 0, none⟩) 1 rPrn (some ⟨W6.heap.size, 0, none⟩) 1 rJob (some ⟨W8.heap.size, 0, none⟩) 1 [[0]] 5 W9 (hP1.pure (gr_trans (gr_trans hg2 hg3) hg4)) (hJ2.pure (gr_trans hg3 hg4)) hPl
  rw [r_fault, r_ends, r_end] at hE
  clear hP1 hJ2 hPl hg1 hg2 hg3 hg4 hz1 hz2 hz3
  refine hE.mono ?_
  rintro e w10 ⟨A', c', rfl, hs, hg5⟩
  clear hE
  go_wp2_with fail
  go_ret
  exact ⟨rfl, gr_trans hgw hg5⟩

end Go.Proofs.YtejmbaiioblfeaaGreatDoor
