/- Contracts of functions that this seat's laws reach, each: what one call returns and what it leaves in memory; no condition beyond each theorem's own hypotheses. -/
import Derived.Test.YtfleljmmfkkkpaaGreatDoorZqTabS
import Derived.Lib.LaidTab
import Derived.Lib.LaidU8
set_option linter.unusedVariables false
set_option linter.unusedSimpArgs false
namespace Go.Proofs.YtfleljmmfkkkpaaGreatDoor
open Go Go.RowKit Go.Bl

theorem tab_type : (Tryz.prog.globalNamed "internal/strconv.uint64pow10").bind (fun g => (Tryz.prog.globals[g]?).map (·.type)) = some 164 := by kernel_rfl

theorem tab_of_reads {w : World} (h : Lib.VarReads Tryz.prog w "internal/strconv.uint64pow10" (Lib.tabData .u64 Lib.pow10Tab)) : Tab w := by
  obtain ⟨g, t, cs, fuel, p, h1, h2, h3, h4⟩ := h
  have hf := tab_type
  rw [h1] at hf
  simp only [Option.bind_some] at hf
  obtain rfl : t = 164 := Option.some.inj (h2.symm.trans hf)
  unfold Tab Lib.TabIs
  have hc := Lib.cells_of_tab (P := Tryz.prog) (w := w) (n := 20) (e := 139) Tryz.underlying164 Tryz.underlying139 (by kernel_rfl) (by kernel_rfl) h4
  rw [h3, ← hc]

end Go.Proofs.YtfleljmmfkkkpaaGreatDoor
