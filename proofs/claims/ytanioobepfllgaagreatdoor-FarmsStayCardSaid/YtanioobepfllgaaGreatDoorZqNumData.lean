/- Contracts of functions that this seat's laws reach, each: what one call returns and what it leaves in memory; no condition beyond each theorem's own hypotheses. -/
import Derived.Test.YtanioobepfllgaaGreatDoorZqSpoolData
import Derived.Lib.ItoaMem
import Derived.Lib.AtoiTie
set_option linter.unusedVariables false
set_option linter.unusedSimpArgs false
namespace Go.Bl
open Go

def isDig (b : UInt8) : Bool := decide (48 ≤ b.toNat) && decide (b.toNat ≤ 57)

/-- a text's sign, and what stands behind it -/
def negB (s : List UInt8) : Bool := s.head? == some 45

def bodyB (s : List UInt8) : List UInt8 := if negB s then s.tail else s
/-- the digits are there, and not too many -/
def digsOk (s : List UInt8) : Bool := !(bodyB s).isEmpty && decide ((bodyB s).length ≤ 15) && (bodyB s).all isDig

def zeroB (s : List UInt8) : Bool := (bodyB s).head? == some 48 && (decide (1 < (bodyB s).length) || negB s)

def magB (s : List UInt8) : Nat := (Lib.decFrom 0 (bodyB s)).getD 0

def numV (s : List UInt8) : Int := if negB s then -(magB s : Int) else magB s
/-- the number that a text is -/
def numK (s : List UInt8) : Option Int := if digsOk s && !zeroB s then some (numV s) else none

end Go.Bl
