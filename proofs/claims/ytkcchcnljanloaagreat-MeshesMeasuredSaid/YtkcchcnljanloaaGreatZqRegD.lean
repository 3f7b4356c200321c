/- Contracts of functions that this seat's laws reach, each: what one call returns and what it leaves in memory; no condition beyond each theorem's own hypotheses. -/
import Derived.Test.YtkcchcnljanloaaGreatZqRegB
import Derived.Test.YtkcchcnljanloaaGreatZqPathC
import Derived.Test.YtkcchcnljanloaaGreatZqMapPt
set_option linter.unusedVariables false
set_option linter.unusedSimpArgs false
namespace Go.Bl
open Go

def twiceB (r : List Pt) : Bool := (List.range r.length).any fun k => decide (cor r k ∈ r.take k)
/-- what is wrong with a ring -/
def ringF (r : List Pt) : Int := if r.length < 3 then 3 else if 500 < r.length then 2 else if r.any farP then 1 else if twiceB r then 6 else sidesF r

end Go.Bl
namespace Go.Proofs.YtkcchcnljanloaaGreat
open Go Go.RowKit Go.Bl Go.Maps Go.WideShapes

end Go.Proofs.YtkcchcnljanloaaGreat

namespace Go.Bl
open Go
/-- a side of a region -/
structure Sid where
  ring : Int
  a : Pt
  b : Pt
deriving DecidableEq

instance : Inhabited Sid := ⟨⟨0, default, default⟩⟩

instance : Enc Sid where
  sz := 5
  rep := fun _ _ p cs => cs = [.int .i64 p.ring, .int .i64 p.a.x, .int .i64 p.a.y, .int .i64 p.b.x, .int .i64 p.b.y]
  len := by rintro w lo x cs rfl; rfl
  one := by rintro w lo x cs rfl u hu; simp at hu; rcases hu with rfl | rfl | rfl | rfl | rfl <;> rfl
  keep := fun h _ => h
  mono := fun h _ => h

instance : Flat Sid := ⟨fun h => h, by decide⟩

def ringS (i : Nat) (r : List Pt) (k : Nat) : List Sid := (List.range k).map fun k => ⟨i, cor r k, cor r (k + 1)⟩

def sidesK (rs : List (List Pt)) (k : Nat) : List Sid := ((List.range k).map fun i => ringS i (rs.getD i []) (rs.getD i []).length).flatten

end Go.Bl
namespace Go.Proofs.YtkcchcnljanloaaGreat
open Go Go.RowKit Go.Bl

end Go.Proofs.YtkcchcnljanloaaGreat
