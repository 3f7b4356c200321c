/- Contracts of functions that this seat's laws reach, each: what one call returns and what it leaves in memory; no condition beyond each theorem's own hypotheses. -/
import Derived.Test.YtpdhbhlnopmifaaGreatDoorZqRegRefC
import Derived.Test.YtpdhbhlnopmifaaGreatDoorZqRegH
set_option linter.unusedVariables false
set_option linter.unusedSimpArgs false
namespace Go.Bl
open Go
/-- how many of a ring's first k sides a way meets -/
def metR (r : List Pt) (a b : Pt) : Nat → Int
  | 0 => 0
  | k + 1 => metR r a b k + if meetM (cor r k) (cor r (k + 1)) a b then 1 else 0
/-- how many sides of the first i rings a way meets -/
def metI (rs : List (List Pt)) (a b : Pt) : Nat → Int
  | 0 => 0
  | i + 1 => metI rs a b i + metR (rs.getD i []) a b (rs.getD i []).length

def metF (rs : List (List Pt)) (a b : Pt) : Int := metI rs a b rs.length

end Go.Bl
namespace Go.Proofs.YtpdhbhlnopmifaaGreatDoor
open Go Go.RowKit Go.Bl

end Go.Proofs.YtpdhbhlnopmifaaGreatDoor

namespace Go.Proofs.YtpdhbhlnopmifaaGreatDoor
open Go Go.RowKit Go.Bl

def meetsE (rs : List (List Pt)) (a b : Pt) : Int := if regF rs ≠ 0 then regF rs else if farP a || farP b then 1 else 0

def meetsN (rs : List (List Pt)) (a b : Pt) : Int := if meetsE rs a b = 0 then metF rs a b else 0

end Go.Proofs.YtpdhbhlnopmifaaGreatDoor
