/- Contracts of functions that this seat's laws reach, each: what one call returns and what it leaves in memory; no condition beyond each theorem's own hypotheses. -/
import Derived.Test.YtgcpegjggakemaaGreatDoorZqClosData
import Derived.Test.YtgcpegjggakemaaGreatDoorZqNestCat
set_option linter.unusedVariables false
set_option linter.unusedSimpArgs false
namespace Go.Bl
open Go

def memI (T : List Int) (x : Int) : Bool := decide (x ∈ T)
/-- the fault of a plan's jobs (as one list) of n jobs, behind some -/
def planIn (n : Nat) (seen : List Int) : List Int → Int
  | [] => if seen.length < n then 8 else 0
  | k :: r => if k < 0 ∨ (n : Int) ≤ k then 1 else if memI seen k then 6 else planIn n (seen ++ [k]) r

def planK (n : Nat) (L : List Int) (k : Nat) : Int := planIn n (L.take k) (L.drop k)

def planF (p : List Prn) (j : List Jb) (plan : List (List Int)) : Int :=
  if farmF p j ≠ 0 then farmF p j else if plan.length ≠ p.length then 3 else planK j.length plan.flatten 0

def seenN (n : Nat) (T : List Int) : List Bool := (List.range n).map fun (i : Nat) => memI T (i : Int)

end Go.Bl
