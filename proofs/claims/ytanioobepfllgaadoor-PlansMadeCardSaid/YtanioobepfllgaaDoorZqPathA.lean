/- Contracts of functions that this seat's laws reach, each: what one call returns and what it leaves in memory; no condition beyond each theorem's own hypotheses. -/
import Derived.Test.YtanioobepfllgaaDoorZqStream
import Derived.Test.YtanioobepfllgaaDoorZqTree
import Derived.Test.YtanioobepfllgaaDoorZqNest2
import Derived.Test.YtanioobepfllgaaDoorZqBitRun
set_option linter.unusedVariables false
set_option linter.unusedSimpArgs false
namespace Go.Proofs.YtanioobepfllgaaDoor
open Go.RowKit Go.Bl

theorem info_int : (Tryd.prog.info? 3).map (fun i => (i.zero, i.size, i.bytes)) = some (some (.int .i64 0), 1, 8) := by kernel_rfl

set_option maxHeartbeats 400000 in
theorem outside_any (n a b : Int) (w : World) :
    Calls Tryd.prog 55 #[.int .i64 n, .int .i64 a, .int .i64 b] w fun e w' => e = .returned (.bool (outB n a b)) ∧ w = w' := by
  by_cases h1 : n < a
  · go_enter Tryd.func55, Tryd.ntmps55
    go_wp2
    go_ret
    exact ⟨by simp [outB, h1], rfl⟩
  · by_cases h2 : b < n
    · go_enter Tryd.func55, Tryd.ntmps55
      go_wp2
      go_ret
      exact ⟨by simp [outB, h1, h2], rfl⟩
    · go_enter Tryd.func55, Tryd.ntmps55
      go_wp2
      go_ret
      exact ⟨by simp [outB, h1, h2], rfl⟩

set_option maxHeartbeats 400000 in
theorem in_any (n a b : Int) (w : World) :
    Calls Tryd.prog 52 #[.int .i64 n, .int .i64 a, .int .i64 b] w fun e w' => e = .returned (.bool (inB n a b)) ∧ w = w' := by
  by_cases h1 : a ≤ n
  · by_cases h2 : n ≤ b
    · go_enter Tryd.func52, Tryd.ntmps52
      go_wp2
      go_ret
      exact ⟨ret_bool (inB_of h1 h2).symm, rfl⟩
    · have hb := hide (inB_hi (a := a) h2)
      go_enter Tryd.func52, Tryd.ntmps52
      go_wp2
      go_ret
      exact ⟨ret_bool hb.out.symm, rfl⟩
  · have hb := hide (inB_lo (b := b) h1)
    go_enter Tryd.func52, Tryd.ntmps52
    go_wp2
    go_ret
    exact ⟨ret_bool hb.out.symm, rfl⟩

set_option maxHeartbeats 400000 in
theorem spanFault_any (n a b : Int) (w : World) :
    Calls Tryd.prog 27 #[.int .i64 n, .int .i64 a, .int .i64 b] w fun e w' => e = .returned (.int .i64 (spanF n a b)) ∧ w = w' := by
  rcases h : inB n a b with _ | _
  · have hs := hide (spanF_out h)
    go_enter Tryd.func27, Tryd.ntmps27
    go_wp2_with (go_at_call 52; refine (in_any _ _ _ _).mono ?_; rintro e w' ⟨rfl, rfl⟩)
    go_ret
    exact ⟨ret_int hs.out.symm, rfl⟩
  · have hs := hide (spanF_in h)
    go_enter Tryd.func27, Tryd.ntmps27
    go_wp2_with (go_at_call 52; refine (in_any _ _ _ _).mono ?_; rintro e w' ⟨rfl, rfl⟩)
    go_ret
    exact ⟨ret_int hs.out.symm, rfl⟩

set_option maxHeartbeats 400000 in
theorem truth_any (b : Bool) (w : World) :
    Calls Tryd.prog 59 #[.bool b] w fun e w' => e = .returned (.int .i64 (if b then 1 else 0)) ∧ w = w' := by
  cases b <;> (go_enter Tryd.func59, Tryd.ntmps59; go_wp2; go_ret; exact ⟨rfl, rfl⟩)

end Go.Proofs.YtanioobepfllgaaDoor

namespace Go.Proofs.YtanioobepfllgaaDoor
open Go.RowKit Go.Bl

def SPt (b : Nat) (N : Int) (w : World) (e : Ending) (w' : World) : Prop := ∃ p : Pt, e = .returned (.agg #[.int .i64 p.x, .int .i64 p.y]) ∧ SOut b N w w'

end Go.Proofs.YtanioobepfllgaaDoor
