/- Contracts of functions that this seat's laws reach, each: what one call returns and what it leaves in memory; no condition beyond each theorem's own hypotheses. -/
import Derived.Test.YtlfcgobmhbemoaaGreatDoorZqCelAA
import Derived.Test.YtlfcgobmhbemoaaGreatDoorZqCelAC
import Derived.Test.YtlfcgobmhbemoaaGreatDoorZqCelAD
set_option linter.unusedVariables false
set_option linter.unusedSimpArgs false
namespace Go.Bl
open Go

def NearS (S : Int → Int → Bool) : Prop := ∀ x y, S x y = true → -50 ≤ x ∧ x < 50 ∧ -50 ≤ y ∧ y < 50

theorem pair_zero {a b : Cel} (ha : CellsOk a) (hb : CellsOk b) (hs : a.step = b.step) : pairF a b = 0 := by
  simp [pairF, cells_ok.2 ha, cells_ok.2 hb, hs]

theorem res_right {a b c : Cel} {S : Int → Int → Bool} {er : Int} (h : ResC (pairF a b) a.step S c er) (ha : CellsOk a) (hb : CellsOk b) (hs : a.step = b.step) (hn : NearS S) :
    er = 0 ∧ CellsOk c ∧ c.step = a.step ∧ ∀ x y, onC c x y = S x y := by
  rcases h with ⟨h, -⟩ | ⟨-, h⟩
  · exact absurd (pair_zero ha hb hs) h
  · obtain rfl := h.zero ha.step hn
    exact ⟨rfl, h.back ha.step⟩

theorem cnt_of {c : Cel} (h : CellsOk c) (hn : NearS (onC c)) : cntK (gridOf c) (gridOf c).on.length = cntS (onC c) := by
  rw [cntK_all (gridOf_ok h) (fun x y e => hn x y (by rwa [gridOf_at h] at e))]
  congr 1
  exact funext fun x => funext fun y => gridOf_at h

end Go.Bl
namespace Go.Proofs.YtlfcgobmhbemoaaGreatDoor
open Go Go.RowKit Go.Bl

set_option maxHeartbeats 1000000 in
theorem countOf_any (c : Cel) (A : Option Addr) (n cc : Nat) (k : Int) (w : World) (ha : CArg w c A n) (hok : CellsOk c) (hn : NearS (onC c)) (hk : (cntS (onC c) : Int) = k) :
    Calls Tryz.prog 19 #[.agg #[.int .i64 (c).step, .int .i64 (c).x, .int .i64 (c).y, .slice A n cc]] w fun e w' => e = .returned (.int .i64 k) ∧ w.grownBy w' none := by
  have hCo := hide (fun W (h : w.grownBy W none) => count_any c A n cc W (ha.pure h))
  have hv := hide ((congrArg Int.ofNat (cnt_of hok hn)).trans hk)
  have hz := hide (cells_ok.2 hok)
  have hok' := hide hok
  clear hk ha hok hn
  go_enter Tryz.func19, Tryz.ntmps19
  go_upto_region 1 with fail
  obtain ⟨w0, hw0⟩ : ∃ x, x = (w).alloc (.cells [.int .i64 (c).step, .int .i64 (c).x, .int .i64 (c).y, .slice A n cc].toArray 28) := ⟨_, rfl⟩
  have hg0 : (w).grownBy w0 none := by rw [hw0]; exact gr_alloc (World.grownBy.refl _ _) _
  have hb0 : Box w0 (w).heap.size 28 [.int .i64 (c).step, .int .i64 (c).x, .int .i64 (c).y, .slice A n cc] := by rw [hw0]; exact Box.new _ _ _
  have hxs0 := hb0.lt
  rw [← hw0]
  clear hw0
  obtain ⟨x0, hx0⟩ : ∃ x, x = (w).heap.size := ⟨_, rfl⟩
  rw [← hx0] at hb0 hxs0 ⊢
  have hxl0 : (w).heap.size ≤ x0 := by omega
  clear hx0
  obtain ⟨⟨a0, -⟩, ⟨a1, -⟩, ⟨a2, -⟩, ⟨a3, -⟩⟩ := box4_c hb0
  go_wp2_with fail
  refine (hCo.out w0 hg0).mono ?_
  rintro e w1 ⟨N, E, rfl, hN, hg1⟩
  rw [hz.out]
  have hN' := hide (hN hok'.out)
  clear hN
  go_wp2_with fail
  go_ret
  exact ⟨ret_int (by rw [hN'.out]; exact hv.out), hg0.t hg1⟩

end Go.Proofs.YtlfcgobmhbemoaaGreatDoor
