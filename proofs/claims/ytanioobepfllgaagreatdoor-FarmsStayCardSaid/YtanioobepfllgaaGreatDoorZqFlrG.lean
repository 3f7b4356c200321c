/- Contracts of functions that this seat's laws reach, each: what one call returns and what it leaves in memory; no condition beyond each theorem's own hypotheses. -/
import Derived.Test.YtanioobepfllgaaGreatDoorZqFlrE
import Derived.Test.YtanioobepfllgaaGreatDoorZqFlrF
import Derived.Test.YtanioobepfllgaaGreatDoorZqSpoolE
set_option linter.unusedVariables false
set_option linter.unusedSimpArgs false
namespace Go.Proofs.YtanioobepfllgaaGreatDoor
open Go Go.RowKit Go.Bl Go.Maps Go.WideShapes

theorem KeepM.of {lo : Nat} {w w' : World} (h : w.grownBy w' none) : KeepM lo w w' := fun x _ hx => h.block x (by
  rcases hx with ⟨es, ck, h1⟩ | ⟨vs, h1⟩
  · exact (Array.getElem?_eq_some_iff.1 h1).1
  · exact h1.lt) (by simp)

theorem run_enterF {P : Program} {f : FuncId} {fn : Func} {c : Code} (hf : P.funcs[f]? = some fn) (hname : (fn.name == "runtime.NumGoroutine") = false) (hb : fn.body = some c) (args : Array Value) (w : World) :
    (callFunc f args).run P w = .ok (.enter f args) w := by
  have h1 : fn.name ≠ "runtime.NumGoroutine" := by simpa using hname
  simp [callFunc, hf, h1, hb]

end Go.Proofs.YtanioobepfllgaaGreatDoor
