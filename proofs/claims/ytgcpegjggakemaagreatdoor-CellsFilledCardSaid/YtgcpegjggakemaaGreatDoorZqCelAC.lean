/- Contracts of functions that this seat's laws reach, each: what one call returns and what it leaves in memory; no condition beyond each theorem's own hypotheses. -/
import Derived.Test.YtgcpegjggakemaaGreatDoorZqCelM
import Derived.Test.YtgcpegjggakemaaGreatDoorZqCompData
set_option linter.unusedVariables false
set_option linter.unusedSimpArgs false
namespace Go.Proofs.YtgcpegjggakemaaGreatDoor
open Go Go.RowKit Go.Bl

theorem steps_any (w : World) : Calls Tryz.prog 84 #[] w fun e w' => ∃ A, e = .returned (.slice A 4 4) ∧ Sl w' w.heap.size A ([⟨0, -1⟩, ⟨-1, 0⟩, ⟨1, 0⟩, ⟨0, 1⟩] : List Pt) ∧ w.grownBy w' none := by
  go_enter Tryz.func84, Tryz.ntmps84
  go_wp2_with fail
  go_ret
  exact ⟨_, rfl, sl_lit w w.heap.size [.int .i64 0, .int .i64 (-1), .int .i64 (-1), .int .i64 0, .int .i64 1, .int .i64 0, .int .i64 0, .int .i64 1] _ _ (Nat.le_refl _) (by simp [maxLen]) ⟨_, _, rfl, rfl, _, _, rfl, rfl, _, _, rfl, rfl, _, [], rfl, rfl, rfl⟩, gr_alloc (World.grownBy.refl _ _) _⟩

def CntI (w0 : World) (g b gc ge gg : Nat) (G : Grd) (k : Nat) (w : World) : Prop :=
  ∃ e : Int, (0 ≤ e ∧ e ≤ 4 * k) ∧ Box w gc 3 [.int .i64 (cntK G k)] ∧ Box w ge 3 [.int .i64 e] ∧ w0.grownBy w none ∧ Box w gg 97 [.pointer (some ⟨g, 0, none⟩)] ∧ GridAt w g b G

theorem CntI.pure {w0 w w' : World} {g b gc ge gg : Nat} {G : Grd} {k : Nat} (h : CntI w0 g b gc ge gg G k w) (hg : w.grownBy w' none) : CntI w0 g b gc ge gg G k w' :=
  let ⟨e, h1, h2, h3, h4, h5, h6⟩ := h
  ⟨e, h1, h2.pure hg, h3.pure hg, h4.t hg, h5.pure hg, h6.pure hg⟩

theorem CntI.skip {w0 w : World} {g b gc ge gg : Nat} {G : Grd} {k : Nat} (h : CntI w0 g b gc ge gg G k w) (hv : G.on.getD k false = false) : CntI w0 g b gc ge gg G (k + 1) w :=
  let ⟨e, h1, h2, h3, h4, h5, h6⟩ := h
  ⟨e, by omega, by rw [cntK_next, hv]; exact h2, h3, h4, h5, h6⟩

end Go.Proofs.YtgcpegjggakemaaGreatDoor
