/- Contracts of functions that this seat's laws reach, each: what one call returns and what it leaves in memory; no condition beyond each theorem's own hypotheses. -/
import Derived.Test.YthciblcokogkkaaGreatDoorZqFlrE
import Derived.Test.YthciblcokogkkaaGreatDoorZqFlrF
import Derived.Test.YthciblcokogkkaaGreatDoorZqEqStr
set_option linter.unusedVariables false
set_option linter.unusedSimpArgs false
namespace Go.Proofs.YthciblcokogkkaaGreatDoor
open Go Go.RowKit Go.Bl Go.Maps Go.WideShapes

theorem KeepM.of {lo : Nat} {w w' : World} (h : w.grownBy w' none) : KeepM lo w w' := fun x _ hx => h.block x (by
  rcases hx with ⟨es, ck, h1⟩ | ⟨vs, h1⟩
  · exact (Array.getElem?_eq_some_iff.1 h1).1
  · exact h1.lt) (by simp)

theorem run_enterF {P : Program} {f : FuncId} {fn : Func} {c : Code} (hf : P.funcs[f]? = some fn) (hname : (fn.name == "runtime.NumGoroutine") = false) (hb : fn.body = some c) (args : Array Value) (w : World) :
    (callFunc f args).run P w = .ok (.enter f args) w := by
  have h1 : fn.name ≠ "runtime.NumGoroutine" := by simpa using hname
  simp [callFunc, hf, h1, hb]

set_option maxHeartbeats 800000 in
theorem noClo_any (i v : Int) (S : Std) (w : World) :
    Calls Tryz.prog 97 #[.int .i64 i, .agg #[.int .i64 S.st, .int .i64 S.since, .string S.mat, .string S.job], .int .i64 v] w fun e w' => e = .returned (.tuple #[]) ∧ w.grownBy w' none := by
  go_enter Tryz.func97, Tryz.ntmps97
  go_wp2_with fail
  go_end0
  exact ⟨rfl, gr_alloc (World.grownBy.refl _ _) _⟩

set_option maxHeartbeats 1000000 in
theorem floorAt_any (P A : Option Addr) (pc c : Nat) (p : List Prn) (l : List Ev) (at_ : Int) (w : World)
    (hpl : Sl w 0 P p) (hpk : ∀ x ∈ p, okK x.key) (h50 : p.length ≤ 50) (hl5 : l.length ≤ 5000) (hev : ∀ e ∈ l, EvOk e) (hl : Sl w 0 A l) :
    Calls Tryz.prog 48 #[.slice P p.length pc, .slice A l.length c, .int .i64 at_] w fun e w' => ∃ f b1 b2 b3 b4, e = .returned (.pointer (some ⟨f, 0, none⟩)) ∧ FlrAt w' f b1 b2 b3 b4 20000 (runS (newF p) (l.take (limN l at_))) ∧ w.grownBy w' none ∧ ∀ x, x = f ∨ isF b1 b2 b3 b4 x → w.heap.size ≤ x := by
  have hen : ∀ (xs : Array Value) wx, (callFunc 97 xs).run Tryz.prog wx = .ok (.enter 97 xs) wx := fun xs wx => run_enterF Tryz.func97 (by kernel_rfl) rfl xs wx
  have hF := hide (follow_any P A pc c p l at_ 97 #[] #[] (fun _ wx => w.grownBy wx none) w hpl hpk h50 hl5 hev (fun k wx h => hl.pure h)
    (fun k wx wy q h1 h2 h3 => h2.new h1 fun x hx => (h3 x hx).1)
    (fun k hk wx _ h1 => (noClo_any _ _ _ wx).mono fun e w' ⟨h2, h3⟩ => ⟨h2, h1.t h3, KeepM.of h3⟩) hen (World.grownBy.refl _ _))
  clear hpl hpk hl hev hen
  go_enter Tryz.func48, Tryz.ntmps48
  go_wp2_with fail
  refine hF.out.mono ?_
  rintro e w1 ⟨f, b1, b2, b3, b4, rfl, hF1, hg, hlo⟩
  replace hlo := hide hlo
  go_wp2_with fail
  go_ret
  exact ⟨f, b1, b2, b3, b4, rfl, hF1, hg, hlo.out⟩

end Go.Proofs.YthciblcokogkkaaGreatDoor
