/- Laws of builtins for walks. -/
import Derived.Test.YtlfobddinilmcaaDoorKit2
import Derived.Laws.Cover1
set_option linter.unusedVariables false
set_option linter.unusedSimpArgs false
namespace Go.Bl
open Go
variable {P : Program}
theorem ite_max (x y : Int) : (if y > x then y else x) = max x y := by rw [Int.max_def]; split <;> split <;> omega
theorem ite_min (x y : Int) : (if y < x then y else x) = min x y := by rw [Int.min_def]; split <;> split <;> omega
theorem run_max4 (W : World) (ts : Array TypeId) (t : TypeId) (k : IntKind) (x y z u : Int) : (Builtin.max_ ts t #[.int k x, .int k y, .int k z, .int k u]).run P W = .ok (.int k (max (max (max x y) z) u)) W := by
  simp only [← ite_max]
  simp [Builtin.max_, Builtin.max2]
theorem run_max3 (W : World) (ts : Array TypeId) (t : TypeId) (k : IntKind) (x y z : Int) : (Builtin.max_ ts t #[.int k x, .int k y, .int k z]).run P W = .ok (.int k (max (max x y) z)) W := by
  simp only [← ite_max]
  simp [Builtin.max_, Builtin.max2]
end Go.Bl
