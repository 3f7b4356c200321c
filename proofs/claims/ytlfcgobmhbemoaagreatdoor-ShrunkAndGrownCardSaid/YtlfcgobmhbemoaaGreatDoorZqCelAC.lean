/- Contracts of functions that this seat's laws reach, each: what one call returns and what it leaves in memory; no condition beyond each theorem's own hypotheses. -/
import Derived.Test.YtlfcgobmhbemoaaGreatDoorZqCelN
import Derived.Test.YtlfcgobmhbemoaaGreatDoorZqGrowData
set_option linter.unusedVariables false
set_option linter.unusedSimpArgs false
namespace Go.Proofs.YtlfcgobmhbemoaaGreatDoor
open Go Go.RowKit Go.Bl

def CntI (w0 : World) (g b gc ge gg : Nat) (G : Grd) (k : Nat) (w : World) : Prop :=
  ∃ e : Int, (0 ≤ e ∧ e ≤ 4 * k) ∧ Box w gc 3 [.int .i64 (cntK G k)] ∧ Box w ge 3 [.int .i64 e] ∧ w0.grownBy w none ∧ Box w gg 52 [.pointer (some ⟨g, 0, none⟩)] ∧ GridAt w g b G

theorem CntI.pure {w0 w w' : World} {g b gc ge gg : Nat} {G : Grd} {k : Nat} (h : CntI w0 g b gc ge gg G k w) (hg : w.grownBy w' none) : CntI w0 g b gc ge gg G k w' :=
  let ⟨e, h1, h2, h3, h4, h5, h6⟩ := h
  ⟨e, h1, h2.pure hg, h3.pure hg, h4.t hg, h5.pure hg, h6.pure hg⟩

theorem CntI.skip {w0 w : World} {g b gc ge gg : Nat} {G : Grd} {k : Nat} (h : CntI w0 g b gc ge gg G k w) (hv : G.on.getD k false = false) : CntI w0 g b gc ge gg G (k + 1) w :=
  let ⟨e, h1, h2, h3, h4, h5, h6⟩ := h
  ⟨e, by omega, by rw [cntK_next, hv]; exact h2, h3, h4, h5, h6⟩

end Go.Proofs.YtlfcgobmhbemoaaGreatDoor
