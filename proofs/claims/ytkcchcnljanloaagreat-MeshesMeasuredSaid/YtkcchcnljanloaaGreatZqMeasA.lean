/- Contracts of functions that this seat's laws reach, each: what one call returns and what it leaves in memory; no condition beyond each theorem's own hypotheses. -/
import Derived.Test.YtkcchcnljanloaaGreatZqMeasP
import Derived.Test.YtkcchcnljanloaaGreatZqTree
import Derived.Test.YtkcchcnljanloaaGreatZqFlowA
import Derived.Test.YtkcchcnljanloaaGreatZqJm
import Derived.BigQuiet
set_option linter.unusedVariables false
set_option linter.unusedSimpArgs false
namespace Go.Proofs.YtkcchcnljanloaaGreat
open Go Go.RowKit Go.Bl

def comK (f g : Fc) : Nat → Int
  | 0 => 0
  | 1 => b1 (memF f.a g)
  | 2 => b1 (memF f.a g) + b1 (memF f.b g)
  | _ => comN f g

set_option maxHeartbeats 4000000 in
theorem common_any (f g : Fc) (w : World) : Calls Tryz.prog 55 #[.agg #[.int .i64 f.a, .int .i64 f.b, .int .i64 f.c], .agg #[.int .i64 g.a, .int .i64 g.b, .int .i64 g.c]] w fun e w' => e = .returned (.int .i64 (comN f g)) ∧ w.grownBy w' none := by
  obtain ⟨fa, fb, fc⟩ := f
  obtain ⟨ga, gb, gc⟩ := g
  simp only
  obtain ⟨W, hW⟩ : ∃ W, W = ((w.alloc (.cells #[.int .i64 fa, .int .i64 fb, .int .i64 fc] 58)).alloc (.cells #[.int .i64 ga, .int .i64 gb, .int .i64 gc] 58)).alloc (.cells #[.int .i64 fa, .int .i64 fb, .int .i64 fc] 3) := ⟨_, rfl⟩
  have hgW : w.grownBy W none := by rw [hW]; exact (by repeat (first | exact World.grownBy.refl _ _ | assumption | refine gr_alloc ?_ _ | (apply gr_tail; assumption) | refine gr_drewN ?_ _ | refine gr_drew ?_))
  have z0 : W.cell? ⟨w.heap.size + 1, 0, none⟩ = some (.int .i64 ga) := by rw [hW]; go_simp
  have z1 : W.cell? ⟨w.heap.size + 1, 1, none⟩ = some (.int .i64 gb) := by rw [hW]; go_simp
  have z2 : W.cell? ⟨w.heap.size + 1, 2, none⟩ = some (.int .i64 gc) := by rw [hW]; go_simp
  have y0 : W.cell? ⟨w.heap.size + 1 + 1, 0, none⟩ = some (.int .i64 fa) := by rw [hW]; go_simp
  have y1 : W.cell? ⟨w.heap.size + 1 + 1, 1, none⟩ = some (.int .i64 fb) := by rw [hW]; go_simp
  have y2 : W.cell? ⟨w.heap.size + 1 + 1, 2, none⟩ = some (.int .i64 fc) := by rw [hW]; go_simp
  go_enter Tryz.func55, Tryz.ntmps55
  go_upto_region 3 with fail
  rw [← hW]
  clear hW
  generalize w.heap.size = x at *
  go_loopw [5, 16] (fun o i wr => ∃ k : Nat, k ≤ 3 ∧ i = .int .i64 k ∧ o = .int .i64 (comK ⟨fa, fb, fc⟩ ⟨ga, gb, gc⟩ k) ∧ wr = W) (fun _ i _ => 3 - (intOf i).toNat)
  case atStart => exact ⟨0, by omega, rfl, rfl, rfl⟩
  case round =>
    obtain ⟨k, hk, rfl, rfl, rfl⟩ := hrel
    have hg : True := trivial
    obtain rfl | rfl | rfl | rfl : k = 0 ∨ k = 1 ∨ k = 2 ∨ k = 3 := by omega
    · obtain ⟨Y, hY, hS, hb⟩ : ∃ Y, comK ⟨fa, fb, fc⟩ ⟨ga, gb, gc⟩ 0 = Y ∧ Hid (comK ⟨fa, fb, fc⟩ ⟨ga, gb, gc⟩ (0 + 1) = Y + b1 (memF fa ⟨ga, gb, gc⟩)) ∧ (0 ≤ Y ∧ Y ≤ 2) := ⟨_, rfl, by simp [Hid, comK], by simp [comK]⟩
      rw [hY]
      clear hY
      by_cases h1 : fa = ga
      · have d1 : (fa == ga) = true := by simpa using h1
        have hm : Hid (memF fa ⟨ga, gb, gc⟩ = true) := by simp [Hid, memF, h1]
        clear h1
        go_wp2_with fail
        refine (truth_any true _).mono ?_
        rintro e w5 ⟨rfl, rfl⟩
        go_wp2_with fail
        go_roundw
        case rel => exact ⟨0 + 1, by omega, rfl, by rw [hS.out, hm.out]; simp [b1], hg⟩
        case measure => simp [intOf]
      · have d1 : (fa == ga) = false := by simpa using h1
        by_cases h2 : fa = gb
        · have d2 : (fa == gb) = true := by simpa using h2
          have hm : Hid (memF fa ⟨ga, gb, gc⟩ = true) := by simp [Hid, memF, h2]
          clear h1 h2
          go_wp2_with fail
          refine (truth_any true _).mono ?_
          rintro e w5 ⟨rfl, rfl⟩
          go_wp2_with fail
          go_roundw
          case rel => exact ⟨0 + 1, by omega, rfl, by rw [hS.out, hm.out]; simp [b1], hg⟩
          case measure => simp [intOf]
        · have d2 : (fa == gb) = false := by simpa using h2
          by_cases h3 : fa = gc
          · have d3 : (fa == gc) = true := by simpa using h3
            have hm : Hid (memF fa ⟨ga, gb, gc⟩ = true) := by simp [Hid, memF, h3]
            clear h1 h2 h3
            go_wp2_with fail
            refine (truth_any true _).mono ?_
            rintro e w5 ⟨rfl, rfl⟩
            go_wp2_with fail
            go_roundw
            case rel => exact ⟨0 + 1, by omega, rfl, by rw [hS.out, hm.out]; simp [b1], hg⟩
            case measure => simp [intOf]
          · have d3 : (fa == gc) = false := by simpa using h3
            have hm : Hid (memF fa ⟨ga, gb, gc⟩ = false) := by simp [Hid, memF, h1, h2, h3]
            clear h1 h2 h3
            go_wp2_with fail
            refine (truth_any false _).mono ?_
            rintro e w5 ⟨rfl, rfl⟩
            go_wp2_with fail
            go_roundw
            case rel => exact ⟨0 + 1, by omega, rfl, by rw [hS.out, hm.out]; simp [b1], hg⟩
            case measure => simp [intOf]
    · obtain ⟨Y, hY, hS, hb⟩ : ∃ Y, comK ⟨fa, fb, fc⟩ ⟨ga, gb, gc⟩ 1 = Y ∧ Hid (comK ⟨fa, fb, fc⟩ ⟨ga, gb, gc⟩ (1 + 1) = Y + b1 (memF fb ⟨ga, gb, gc⟩)) ∧ (0 ≤ Y ∧ Y ≤ 2) := ⟨_, rfl, by simp [Hid, comK], by have := b1_bd (memF fa ⟨ga, gb, gc⟩); simp only [comK]; omega⟩
      rw [hY]
      clear hY
      by_cases h1 : fb = ga
      · have d1 : (fb == ga) = true := by simpa using h1
        have hm : Hid (memF fb ⟨ga, gb, gc⟩ = true) := by simp [Hid, memF, h1]
        clear h1
        go_wp2_with fail
        refine (truth_any true _).mono ?_
        rintro e w5 ⟨rfl, rfl⟩
        go_wp2_with fail
        go_roundw
        case rel => exact ⟨1 + 1, by omega, rfl, by rw [hS.out, hm.out]; simp [b1], hg⟩
        case measure => simp [intOf]
      · have d1 : (fb == ga) = false := by simpa using h1
        by_cases h2 : fb = gb
        · have d2 : (fb == gb) = true := by simpa using h2
          have hm : Hid (memF fb ⟨ga, gb, gc⟩ = true) := by simp [Hid, memF, h2]
          clear h1 h2
          go_wp2_with fail
          refine (truth_any true _).mono ?_
          rintro e w5 ⟨rfl, rfl⟩
          go_wp2_with fail
          go_roundw
          case rel => exact ⟨1 + 1, by omega, rfl, by rw [hS.out, hm.out]; simp [b1], hg⟩
          case measure => simp [intOf]
        · have d2 : (fb == gb) = false := by simpa using h2
          by_cases h3 : fb = gc
          · have d3 : (fb == gc) = true := by simpa using h3
            have hm : Hid (memF fb ⟨ga, gb, gc⟩ = true) := by simp [Hid, memF, h3]
            clear h1 h2 h3
            go_wp2_with fail
            refine (truth_any true _).mono ?_
            rintro e w5 ⟨rfl, rfl⟩
            go_wp2_with fail
            go_roundw
            case rel => exact ⟨1 + 1, by omega, rfl, by rw [hS.out, hm.out]; simp [b1], hg⟩
            case measure => simp [intOf]
          · have d3 : (fb == gc) = false := by simpa using h3
            have hm : Hid (memF fb ⟨ga, gb, gc⟩ = false) := by simp [Hid, memF, h1, h2, h3]
            clear h1 h2 h3
            go_wp2_with fail
            refine (truth_any false _).mono ?_
            rintro e w5 ⟨rfl, rfl⟩
            go_wp2_with fail
            go_roundw
            case rel => exact ⟨1 + 1, by omega, rfl, by rw [hS.out, hm.out]; simp [b1], hg⟩
            case measure => simp [intOf]
    · obtain ⟨Y, hY, hS, hb⟩ : ∃ Y, comK ⟨fa, fb, fc⟩ ⟨ga, gb, gc⟩ 2 = Y ∧ Hid (comK ⟨fa, fb, fc⟩ ⟨ga, gb, gc⟩ (2 + 1) = Y + b1 (memF fc ⟨ga, gb, gc⟩)) ∧ (0 ≤ Y ∧ Y ≤ 2) := ⟨_, rfl, by simp [Hid, comK, comN], by have h1 := b1_bd (memF fa ⟨ga, gb, gc⟩); have h2 := b1_bd (memF fb ⟨ga, gb, gc⟩); simp only [comK]; omega⟩
      rw [hY]
      clear hY
      by_cases h1 : fc = ga
      · have d1 : (fc == ga) = true := by simpa using h1
        have hm : Hid (memF fc ⟨ga, gb, gc⟩ = true) := by simp [Hid, memF, h1]
        clear h1
        go_wp2_with fail
        refine (truth_any true _).mono ?_
        rintro e w5 ⟨rfl, rfl⟩
        go_wp2_with fail
        go_roundw
        case rel => exact ⟨2 + 1, by omega, rfl, by rw [hS.out, hm.out]; simp [b1], hg⟩
        case measure => simp [intOf]
      · have d1 : (fc == ga) = false := by simpa using h1
        by_cases h2 : fc = gb
        · have d2 : (fc == gb) = true := by simpa using h2
          have hm : Hid (memF fc ⟨ga, gb, gc⟩ = true) := by simp [Hid, memF, h2]
          clear h1 h2
          go_wp2_with fail
          refine (truth_any true _).mono ?_
          rintro e w5 ⟨rfl, rfl⟩
          go_wp2_with fail
          go_roundw
          case rel => exact ⟨2 + 1, by omega, rfl, by rw [hS.out, hm.out]; simp [b1], hg⟩
          case measure => simp [intOf]
        · have d2 : (fc == gb) = false := by simpa using h2
          by_cases h3 : fc = gc
          · have d3 : (fc == gc) = true := by simpa using h3
            have hm : Hid (memF fc ⟨ga, gb, gc⟩ = true) := by simp [Hid, memF, h3]
            clear h1 h2 h3
            go_wp2_with fail
            refine (truth_any true _).mono ?_
            rintro e w5 ⟨rfl, rfl⟩
            go_wp2_with fail
            go_roundw
            case rel => exact ⟨2 + 1, by omega, rfl, by rw [hS.out, hm.out]; simp [b1], hg⟩
            case measure => simp [intOf]
          · have d3 : (fc == gc) = false := by simpa using h3
            have hm : Hid (memF fc ⟨ga, gb, gc⟩ = false) := by simp [Hid, memF, h1, h2, h3]
            clear h1 h2 h3
            go_wp2_with fail
            refine (truth_any false _).mono ?_
            rintro e w5 ⟨rfl, rfl⟩
            go_wp2_with fail
            go_roundw
            case rel => exact ⟨2 + 1, by omega, rfl, by rw [hS.out, hm.out]; simp [b1], hg⟩
            case measure => simp [intOf]
    · go_wp2_with fail
      go_ret
      exact ⟨rfl, hgW⟩

end Go.Proofs.YtkcchcnljanloaaGreat
