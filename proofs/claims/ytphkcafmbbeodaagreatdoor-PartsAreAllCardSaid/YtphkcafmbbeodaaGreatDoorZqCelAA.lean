/- Contracts of functions that this seat's laws reach, each: what one call returns and what it leaves in memory; no condition beyond each theorem's own hypotheses. -/
import Derived.Test.YtphkcafmbbeodaaGreatDoorZqCelZ
import Derived.Test.YtphkcafmbbeodaaGreatDoorZqEqStr
import Derived.Test.YtphkcafmbbeodaaGreatDoorZqCelN
import Derived.Test.YtphkcafmbbeodaaGreatDoorZqCelW
import Derived.Test.YtphkcafmbbeodaaGreatDoorZqFlowB
set_option linter.unusedVariables false
set_option linter.unusedSimpArgs false
namespace Go.Proofs.YtphkcafmbbeodaaGreatDoor
open Go Go.RowKit Go.Bl

set_option maxHeartbeats 2000000 in
set_option maxRecDepth 100000 in
theorem sameCells_any (c : Cel) (A : Option Addr) (n cc : Nat) (B : Option Addr) (dd : Nat) (w : World) (ha : Sl w 0 A c.rows) (hb : Sl w 0 B c.rows) (hn : c.rows.length = n) :
    Calls Tryz.prog 20 #[.agg #[.int .i64 (c).step, .int .i64 (c).x, .int .i64 (c).y, .slice A n cc], .agg #[.int .i64 (c).step, .int .i64 (c).x, .int .i64 (c).y, .slice B n dd]] w fun e w' => e = .returned (.bool true) ∧ w.grownBy w' none := by
  subst hn
  go_enter Tryz.func20, Tryz.ntmps20
  go_upto_region 1 with fail
  obtain ⟨w4, hw4⟩ : ∃ x, x = ((w).alloc (.cells [.int .i64 (c).step, .int .i64 (c).x, .int .i64 (c).y, .slice A c.rows.length cc].toArray 28)).alloc (.cells [.int .i64 (c).step, .int .i64 (c).x, .int .i64 (c).y, .slice B c.rows.length dd].toArray 28) := ⟨_, rfl⟩
  have hba4 : Box w4 (w).heap.size 28 [.int .i64 (c).step, .int .i64 (c).x, .int .i64 (c).y, .slice A c.rows.length cc] := by
    rw [hw4]; exact (Box.new (w) [.int .i64 (c).step, .int .i64 (c).x, .int .i64 (c).y, .slice A c.rows.length cc] 28).pure (gr_alloc (World.grownBy.refl _ _) _)
  have hbb4 : Box w4 ((w).heap.size + 1) 28 [.int .i64 (c).step, .int .i64 (c).x, .int .i64 (c).y, .slice B c.rows.length dd] := by
    have h := Box.new ((w).alloc (.cells [.int .i64 (c).step, .int .i64 (c).x, .int .i64 (c).y, .slice A c.rows.length cc].toArray 28)) [.int .i64 (c).step, .int .i64 (c).x, .int .i64 (c).y, .slice B c.rows.length dd] 28
    rw [show ((w).alloc (.cells [.int .i64 (c).step, .int .i64 (c).x, .int .i64 (c).y, .slice A c.rows.length cc].toArray 28)).heap.size = (w).heap.size + 1 by simp] at h
    rw [hw4]; exact h
  have hg4 : (w).grownBy w4 none := by rw [hw4]; exact (by repeat (first | exact World.grownBy.refl _ _ | assumption | refine gr_alloc ?_ _ | (apply gr_tail; assumption) | refine gr_drewN ?_ _ | refine gr_drew ?_))
  rw [← hw4]
  clear hw4
  obtain ⟨xb4, hxb4⟩ : ∃ x, x = (w).heap.size + 1 := ⟨_, rfl⟩
  rw [← hxb4] at hbb4 ⊢
  obtain ⟨xa4, hxa4⟩ : ∃ x, x = (w).heap.size := ⟨_, rfl⟩
  rw [← hxa4] at hba4 ⊢
  have hxn4 : xa4 ≠ xb4 := by omega
  replace hxa4 : (w).heap.size ≤ xa4 := by omega
  replace hxb4 : (w).heap.size ≤ xb4 := by omega
  obtain ⟨⟨a0, -⟩, ⟨a1, -⟩, ⟨a2, -⟩, ⟨a3, -⟩⟩ := box4_c hba4
  obtain ⟨⟨b0, -⟩, ⟨b1, -⟩, ⟨b2, -⟩, ⟨b3, -⟩⟩ := box4_c hbb4
  have hE := hide (equalStrs_any A B cc dd c.rows c.rows w4 (ha.pure hg4) (hb.pure hg4))
  go_wp2_with fail
  refine hE.out.mono ?_
  rintro e w5 ⟨rfl, hg5⟩
  have hq : eqT c.rows c.rows = true := by simp [eqT]
  rw [hq]
  clear hE
  go_wp2_with fail
  go_ret
  exact ⟨rfl, hg4.t hg5⟩

end Go.Proofs.YtphkcafmbbeodaaGreatDoor

namespace Go.Bl
open Go

theorem ResC.small {F st : Int} {S : Int → Int → Bool} {c : Cel} {e : Int} (h : ResC F st S c e) : ∀ s ∈ c.rows, s.size ≤ 200 := by
  rcases h with ⟨-, rfl, -⟩ | ⟨-, h⟩
  · simp
  · exact h.small

end Go.Bl
namespace Go.Proofs.YtphkcafmbbeodaaGreatDoor
open Go Go.RowKit Go.Bl

end Go.Proofs.YtphkcafmbbeodaaGreatDoor
