/- Contracts of functions that this seat's laws reach, each: what one call returns and what it leaves in memory; no condition beyond each theorem's own hypotheses. -/
import Derived.Test.YtanioobepfllgaaGreatDoorZqTree
import Derived.StillTail
set_option linter.unusedVariables false
set_option linter.unusedSimpArgs false
namespace Go.Bl
open Go
variable {P : Program} {ops : Array Oper} {C : World → Prop}

/-- each operation has one value in all worlds of C, and stays in C -/
def FixL (P : Program) (C : World → Prop) : List Oper → Act → (Act → Prop) → Prop
  | [], a, K => K a
  | o :: r, a, K => ∃ v, (∀ wx, C wx → ∀ K' : Act → World → Prop, (∀ w', C w' → K' (a.put o.dst v) w') → o.wp P a wx K' NoQ) ∧ FixL P C r (a.put o.dst v) K

theorem FixL.op {o : Oper} {r : List Oper} {a : Act} {K : Act → Prop} (v : Value) (h : ∀ wx, C wx → ∀ K' : Act → World → Prop, (∀ w', C w' → K' (a.put o.dst v) w') → o.wp P a wx K' NoQ) (hr : FixL P C r (a.put o.dst v) K) : FixL P C (o :: r) a K := ⟨v, h, hr⟩

/-- what is asked: n operations at the head -/
def fixB (l : List Oper) (n : Nat) : Bool :=
  Region.noSelect l.toArray && decide (n ≤ l.length) && ((List.range l.length).all fun j => (l[j]?.map fun o => (o.after.toList.all fun e => !Region.binds .any e || decide (e.on < j)) && (!decide (j < n) ||
    (o.guard.isNone && (List.range n).all fun i => (l[i]?.map fun oi => match oi.dst with
      | none => true
      | some d => (i == j || o.dst != some d) && (!(o.looksAt l.toArray).contains d || (decide (i < j) && reachB .any l.toArray (j + 1) j i))).getD true)) && (decide (j < n) || (List.range n).all fun i => reachB .any l.toArray (j + 1) j i)).getD true) &&
  Region.seqB .any l.toArray (l.length - n) n ((List.replicate n true ++ List.replicate (l.length - n) false).toArray)

end Go.Bl
