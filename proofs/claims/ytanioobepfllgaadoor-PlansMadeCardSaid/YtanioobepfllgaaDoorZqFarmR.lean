/- Contracts of functions that this seat's laws reach, each: what one call returns and what it leaves in memory; no condition beyond each theorem's own hypotheses. -/
import Derived.Test.YtanioobepfllgaaDoorZqFarmQ
import Derived.Test.YtanioobepfllgaaDoorZqEqStr
set_option linter.unusedVariables false
set_option linter.unusedSimpArgs false
namespace Go.Proofs.YtanioobepfllgaaDoor
open Go Go.RowKit Go.Bl

def onePrn : List Prn := [⟨⟨#[112]⟩, ⟨#[97]⟩⟩]

def oneJob : List Jb := [⟨⟨#[106]⟩, ⟨#[98]⟩, 20, 0⟩]

theorem one_fault : plannedF onePrn oneJob [[0]] 5 = 0 := by decide

theorem one_ends : endsL onePrn oneJob [[0]] 5 = [25] := by
  unfold endsL
  rw [if_pos one_fault]
  decide

theorem one_end : endsN onePrn oneJob [[0]] 5 = 25 := by
  unfold endsN
  rw [if_pos one_fault]
  decide

set_option maxHeartbeats 800000 in
theorem farmed_any (w : World) : Calls Tryd.prog 17 #[] w fun e w' => e = .returned (.bool true) ∧ w.grownBy w' none := by
  go_enter Tryd.func17, Tryd.ntmps17
  go_wp2_with fail
  obtain ⟨W1, hW1⟩ : ∃ x, x = w.alloc (.cells #[.string ⟨#[112]⟩, .string ⟨#[97]⟩] 47) := ⟨_, rfl⟩
  have hP1 : Sl W1 0 (some ⟨w.heap.size, 0, none⟩) onePrn := by rw [hW1]; exact sl_oneAt w 0 [.string ⟨#[112]⟩, .string ⟨#[97]⟩] _ _ _ rfl (Nat.zero_le _) rfl
  have hg1 : w.grownBy W1 none := by rw [hW1]; exact gr_alloc (World.grownBy.refl _ _) _
  have hz1 : w.heap.size + 1 = W1.heap.size := by rw [hW1]; simp
  rw [← hW1, hz1]
  clear hW1
  obtain ⟨W2, hW2⟩ : ∃ x, x = W1.alloc (.cells #[.string ⟨#[106]⟩, .string ⟨#[98]⟩, .int .i64 20, .int .i64 0] 58) := ⟨_, rfl⟩
  have hJ2 : Sl W2 0 (some ⟨W1.heap.size, 0, none⟩) oneJob := by rw [hW2]; exact sl_oneAt W1 0 [.string ⟨#[106]⟩, .string ⟨#[98]⟩, .int .i64 20, .int .i64 0] _ _ _ rfl (Nat.zero_le _) rfl
  have hg2 : W1.grownBy W2 none := by rw [hW2]; exact gr_alloc (World.grownBy.refl _ _) _
  have hz2 : W1.heap.size + 1 = W2.heap.size := by rw [hW2]; simp
  rw [← hW2, hz2]
  clear hW2
  obtain ⟨W3, hW3⟩ : ∃ x, x = W2.alloc (.cells #[.int .i64 0] 3) := ⟨_, rfl⟩
  have hI3 : Sl W3 0 (some ⟨W2.heap.size, 0, none⟩) [(0 : Int)] := by rw [hW3]; exact sl_oneAt W2 0 [.int .i64 0] _ _ _ rfl (Nat.zero_le _) rfl
  have hg3 : W2.grownBy W3 none := by rw [hW3]; exact gr_alloc (World.grownBy.refl _ _) _
  have hz3 : W2.heap.size + 1 = W3.heap.size := by rw [hW3]; simp
  rw [← hW3, hz3]
  clear hW3
  obtain ⟨W4, hW4⟩ : ∃ x, x = W3.alloc (.cells #[.slice (some ⟨W2.heap.size, 0, none⟩) 1 1] 22) := ⟨_, rfl⟩
  have hg4 : W3.grownBy W4 none := by rw [hW4]; exact gr_alloc (World.grownBy.refl _ _) _
  have hPl : Sl W4 0 (some ⟨W3.heap.size, 0, none⟩) [[(0 : Int)]] := by
    rw [hW4]
    exact sl_lit W3 0 [.slice (some ⟨W2.heap.size, 0, none⟩) 1 1] _ _ (Nat.zero_le _) (by simp [maxLen]) ⟨_, [], rfl, ⟨_, 1, rfl, Nat.le_refl _, by rw [← hW4]; exact hI3.pure hg4⟩, rfl⟩
  rw [← hW4]
  clear hW4 hI3
  have hg := gr_trans (gr_trans (gr_trans hg1 hg2) hg3) hg4
  have hE := endsTop_any (some ⟨w.heap.size, 0, none⟩) 1 onePrn (some ⟨W1.heap.size, 0, none⟩) 1 oneJob (some ⟨W3.heap.size, 0, none⟩) 1 [[0]] 5 W4 (hP1.pure (gr_trans (gr_trans hg2 hg3) hg4)) (hJ2.pure (gr_trans hg3 hg4)) hPl
  rw [one_fault, one_ends, one_end] at hE
  clear hP1 hJ2 hPl hg1 hg2 hg3 hg4 hz1 hz2 hz3
  refine hE.mono ?_
  rintro e w5 ⟨A', c', rfl, hs, hg5⟩
  clear hE
  go_wp2_with fail
  refine (equalInts_any _ _ _ _ [25] [25] _ (hs.pure (gr_alloc (World.grownBy.refl _ _) _)) (sl_oneAt w5 0 [.int .i64 25] _ _ _ rfl (Nat.zero_le _) rfl)).mono ?_
  rintro e w6 ⟨he, hg6⟩
  have he : e = .returned (.bool true) := he.trans (by rfl)
  subst he
  go_wp2_with fail
  go_ret
  exact ⟨rfl, gr_trans hg (gr_trans hg5 (gr_trans (gr_alloc (World.grownBy.refl _ _) _) hg6))⟩

end Go.Proofs.YtanioobepfllgaaDoor
