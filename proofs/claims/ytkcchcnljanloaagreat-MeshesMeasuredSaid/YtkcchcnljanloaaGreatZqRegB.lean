/- Contracts of functions that this seat's laws reach, each: what one call returns and what it leaves in memory; no condition beyond each theorem's own hypotheses. -/
import Derived.Test.YtkcchcnljanloaaGreatZqPathA
import Derived.Test.YtkcchcnljanloaaGreatZqNestCat
import Derived.Test.YtkcchcnljanloaaGreatZqJm
set_option linter.unusedVariables false
set_option linter.unusedSimpArgs false
namespace Go.Bl
open Go

def bdP (p : Pt) : Prop := (-100000 ≤ p.x ∧ p.x ≤ 100000) ∧ -100000 ≤ p.y ∧ p.y ≤ 100000

def turnP (a b c : Pt) : Int := (b.x - a.x) * (c.y - a.y) - (b.y - a.y) * (c.x - a.x)

def apartI (a b c d : Int) : Bool := decide (max a b < min c d) || decide (max c d < min a b)

def acrossB (m n : Int) : Bool := decide (min m n ≤ 0) && decide (max m n ≥ 0)
/-- the program's test of two ways -/
def meetM (a b c d : Pt) : Bool := !(apartI a.x b.x c.x d.x || apartI a.y b.y c.y d.y) && (acrossB (turnP a b c) (turnP a b d) && acrossB (turnP c d a) (turnP c d b))

def foldB (k a b : Pt) : Bool := decide (turnP k a b = 0) && decide ((a.x - k.x) * (b.x - k.x) + (a.y - k.y) * (b.y - k.y) > 0)

end Go.Bl
namespace Go.Proofs.YtkcchcnljanloaaGreat
open Go Go.RowKit Go.Bl

end Go.Proofs.YtkcchcnljanloaaGreat

namespace Go.Bl
open Go

/-- the corner behind i - 1 -/
def cor (r : List Pt) (i : Nat) : Pt := r.getD (i % r.length) default

/-- two sides of a ring that have no corner in common, and meet -/
def sidesM (r : List Pt) (i k : Nat) : Bool := decide (i + 2 ≤ k ∧ ¬(i = 0 ∧ k + 1 = r.length)) && meetM (cor r i) (cor r (i + 1)) (cor r k) (cor r (k + 1))

def badI (r : List Pt) (i : Nat) : Bool := foldB (cor r (i + 1)) (cor r i) (cor r (i + 2)) || (List.range r.length).any (sidesM r i)

def sidesF (r : List Pt) : Int := if (List.range r.length).any (badI r) then 13 else 0

end Go.Bl
namespace Go.Proofs.YtkcchcnljanloaaGreat
open Go Go.RowKit Go.Bl

end Go.Proofs.YtkcchcnljanloaaGreat
