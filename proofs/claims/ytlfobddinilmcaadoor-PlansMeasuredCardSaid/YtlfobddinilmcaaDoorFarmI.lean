/- Contracts of functions that this seat's laws reach, each: what one call returns and what it leaves in memory; no condition beyond each theorem's own hypotheses. -/
import Derived.Test.YtlfobddinilmcaaDoorFarmH
set_option linter.unusedVariables false
set_option linter.unusedSimpArgs false
namespace Go.Proofs.YtlfobddinilmcaaDoor
open Go.RowKit Go.Bl

/-- a job is done by a clock -/
def doC (a : Int × ByteArray) (x : Jb) (ch : Int) : Int × ByteArray := (a.1 + (if a.2 = x.mat then 0 else ch) + x.min, x.mat)

theorem toList_inj {a b : ByteArray} (h : a.toList = b.toList) : a = b := by
  rw [Lib.toList_data, Lib.toList_data] at h
  exact ByteArray.ext (Array.toList_inj.1 h)

set_option maxHeartbeats 1000000 in
theorem clockDo_any (n : Int) (m : ByteArray) (x : Jb) (ch : Int) (w : World) (h0 : 0 ≤ n ∧ n ≤ 1000000000) (h1 : 0 ≤ ch ∧ ch ≤ 1000000) (h2 : 0 ≤ x.min ∧ x.min ≤ 1000000) :
    Calls Tryd.prog 57 #[.agg #[.int .i64 n, .string m], .agg #[.string x.key, .string x.mat, .int .i64 x.min, .int .i64 x.due], .int .i64 ch] w fun e w' => e = .returned (.agg #[.int .i64 (doC (n, m) x ch).1, .string (doC (n, m) x ch).2]) ∧ w.grownBy w' none := by
  by_cases hm : m = x.mat
  · have hV : doC (n, m) x ch = (n + x.min, x.mat) := by simp [doC, hm]
    have hb : (m.toList == x.mat.toList) = true := by simp [hm]
    rw [hV]
    go_enter Tryd.func57, Tryd.ntmps57
    go_wp2_with fail
    refine bodyPost_ret (v := .agg #[.int .i64 (n + x.min), .string x.mat]) (by simp [results, Tryd.results57, go_sem]) rfl ⟨rfl, ?_⟩
    exact (by repeat (first | exact World.grownBy.refl _ _ | assumption | refine gr_alloc ?_ _ | (apply gr_tail; assumption) | refine gr_drewN ?_ _ | refine gr_drew ?_))
  · have hV : doC (n, m) x ch = (n + ch + x.min, x.mat) := by simp [doC, hm]
    have hb : (m.toList == x.mat.toList) = false := by simp; exact fun e => hm (toList_inj e)
    rw [hV]
    go_enter Tryd.func57, Tryd.ntmps57
    go_wp2_with fail
    refine bodyPost_ret (v := .agg #[.int .i64 (n + ch + x.min), .string x.mat]) (by simp [results, Tryd.results57, go_sem]) rfl ⟨rfl, ?_⟩
    exact (by repeat (first | exact World.grownBy.refl _ _ | assumption | refine gr_alloc ?_ _ | (apply gr_tail; assumption) | refine gr_drewN ?_ _ | refine gr_drew ?_))
end Go.Proofs.YtlfobddinilmcaaDoor
