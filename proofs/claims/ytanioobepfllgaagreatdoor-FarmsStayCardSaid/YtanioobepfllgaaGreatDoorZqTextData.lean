/- Contracts of functions that this seat's laws reach, each: what one call returns and what it leaves in memory; no condition beyond each theorem's own hypotheses. -/
import Derived.Test.YtanioobepfllgaaGreatDoorZqNumData
import Derived.Lib.SplitLaws
import Derived.Lib.SlTrimSet
import Derived.Lib.Strings
import Derived.Lib.Join
set_option linter.unusedVariables false
set_option linter.unusedSimpArgs false
namespace Go.Bl
open Go

/-- a text cut at each byte of a kind -/
def pieces (c : UInt8) : List UInt8 → List (List UInt8)
  | [] => [[]]
  | b :: l => if b = c then [] :: pieces c l else match pieces c l with
    | [] => [[b]]
    | x :: r => (b :: x) :: r

def mkB (l : List UInt8) : ByteArray := ⟨l.toArray⟩

def piecesB (c : UInt8) (s : ByteArray) : List ByteArray := (pieces c s.data.toList).map mkB

/-- the lines of a text; is the last one ended? -/
def linesK (s : List UInt8) : List (List UInt8) × Bool := if s = [] then ([], true) else if s.getLast? = some 10 then (pieces 10 s.dropLast, true) else (pieces 10 s, false)

/-- lines that are ended -/
def ended (l : List (List UInt8)) : List UInt8 := (l.map (· ++ [10])).flatten

/-- lines taken one by one: the state behind them, and the number of the first one that does not fit -/
def readL {σ : Type} (step : σ → List UInt8 → Option σ) : σ → Nat → List (List UInt8) → Bool → σ × Option Nat
  | st, _, [], _ => (st, none)
  | st, i, x :: r, e => if r.isEmpty && !e then (st, some i) else match step st x with
    | none => (st, some i)
    | some st' => readL step st' (i + 1) r e

/-- all words are numbers -/
def numsK : List (List UInt8) → Option (List Int)
  | [] => some []
  | x :: l => match numK x, numsK l with
    | some n, some r => some (n :: r)
    | _, _ => none

/-- words with blanks between -/
def joined : List (List UInt8) → List UInt8
  | [] => []
  | [x] => x
  | x :: l => x ++ 32 :: joined l

end Go.Bl
