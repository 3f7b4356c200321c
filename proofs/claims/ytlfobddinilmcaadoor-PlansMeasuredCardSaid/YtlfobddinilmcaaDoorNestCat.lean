/- Appending nothing; the concatenation of a list of lists (nil ones too). -/
import Derived.Test.YtlfobddinilmcaaDoorKit4
set_option linter.unusedVariables false
set_option linter.unusedSimpArgs false
namespace Go.Bl
open Go

theorem run_append_zero {P : Program} (w : World) (t ty e : TypeId) (i : TypeInfo) (ht : P.underlying t = some (.slice e)) (hi : P.info? e = some i)
    (b ad : Option Addr) (n c cc : Nat) (hn : n ≤ c) :
    (Builtin.append_ #[t, t] ty #[.slice b n c, .slice ad 0 cc]).run P w = .ok (.slice b n c) w := by
  have hf : (Builtin.firstCells i.size 0 (.slice ad 0 cc)).run P w = .ok #[] w := by
    cases ad with
    | none => exact run_firstCells_none w _ _ _ _
    | some a => exact run_firstCells_some w _ _ a 0 cc [] (by simp) (by simp)
  cases b <;> simp [Builtin.append_, run_underlying ht, sizeOf, typeInfo, hi, Builtin.lenOf, hn, hf, storeCells]
end Go.Bl
