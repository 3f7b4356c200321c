/- Contracts of functions that this seat's laws reach, each: what one call returns and what it leaves in memory; no condition beyond each theorem's own hypotheses. -/
import Derived.Test.YtpdhbhlnopmifaaGreatDoorZqFitE
import Derived.Test.YtpdhbhlnopmifaaGreatDoorZqFitF
set_option linter.unusedVariables false
set_option linter.unusedSimpArgs false
namespace Go.Proofs.YtpdhbhlnopmifaaGreatDoor
open Go Go.RowKit Go.Bl Go.Lib

def plaK (s : List Spl) (m : ByteArray) : List ByteArray := (s.filter fun x => decide (x.mat = m)).map (·.key)

def plaL (s : List Spl) (m : ByteArray) : List Int := (s.filter fun x => decide (x.mat = m)).map (·.left)

/-- what Changes answers -/
def ChgOk (K : List ByteArray) (L : List Int) (need : Int) (out : List ByteArray) (V : Bool) : Prop :=
  V = decide (need ≤ L.sum) ∧ (V = false → out = []) ∧ (V = true → ∃ I : List Nat, out = I.map (fun i => K.getD i default) ∧ need ≤ (I.map (fun i => L.getD i 0)).sum ∧ (∀ i ∈ I, i < L.length ∧ (I.map (fun i => L.getD i 0)).sum - L.getD i 0 < need) ∧ I.length ≤ L.length)

end Go.Proofs.YtpdhbhlnopmifaaGreatDoor
