/- Contracts of functions that this seat's laws reach, each: what one call returns and what it leaves in memory; no condition beyond each theorem's own hypotheses. -/
import Derived.Test.YtpdhbhlnopmifaaGreatDoorZqRegF
import Derived.Test.YtpdhbhlnopmifaaGreatDoorZqRegGeo
import Derived.Test.YtpdhbhlnopmifaaGreatDoorZqPathA
set_option linter.unusedVariables false
set_option linter.unusedSimpArgs false
namespace Go.Bl
open Go
/-- sides of two rings that meet -/
def pairR (r q : List Pt) : Bool := (List.range r.length).any fun a => (List.range q.length).any fun b => meetR (cor r a) (cor r (a + 1)) (cor q b) (cor q (b + 1))

def pairsR (rs : List (List Pt)) : Bool := (List.range rs.length).any fun i => (List.range i).any fun k => pairR (rs.getD i []) (rs.getD k [])
/-- the reference's fault of a region -/
def regR (rs : List (List Pt)) : Int :=
  if 100 < rs.length ∨ 2000 < (flatK rs rs.length).length then 2
  else if scanN (fun k => ringR (rs.getD k [])) rs.length ≠ 0 then scanN (fun k => ringR (rs.getD k [])) rs.length
  else if pairsR rs then 13 else 0

end Go.Bl

namespace Go.Bl
open Go
/-- cross and dot product -/
def crV (u v : Pt) : Int := u.x * v.y - u.y * v.x

def doV (u v : Pt) : Int := u.x * v.x + u.y * v.y

def subP (b a : Pt) : Pt := ⟨b.x - a.x, b.y - a.y⟩
/-- in the same direction -/
def parV (u v : Pt) : Prop := crV u v = 0 ∧ 0 < doV u v

def addP (a b : Pt) : Pt := ⟨a.x + b.x, a.y + b.y⟩

/-- of one sign -/
def ssg (a b : Int) : Prop := (0 < a ↔ 0 < b) ∧ (a < 0 ↔ b < 0)

end Go.Bl

namespace Go.Bl
open Go
/-- a side of a ring, as the reference has it -/
structure Sg where
  a : Pt
  b : Pt
deriving DecidableEq

instance : Inhabited Sg := ⟨⟨default, default⟩⟩

instance : Enc Sg where
  sz := 4
  rep := fun _ _ p cs => cs = [.int .i64 p.a.x, .int .i64 p.a.y, .int .i64 p.b.x, .int .i64 p.b.y]
  len := by rintro w lo x cs rfl; rfl
  one := by rintro w lo x cs rfl u hu; simp at hu; rcases hu with rfl | rfl | rfl | rfl <;> rfl
  keep := fun h _ => h
  mono := fun h _ => h

instance : Flat Sg := ⟨fun h => h, by decide⟩

def segK (r : List Pt) (k : Nat) : List Sg := (List.range k).map fun k => ⟨cor r k, cor r (k + 1)⟩

end Go.Bl
namespace Go.Proofs.YtpdhbhlnopmifaaGreatDoor
open Go Go.RowKit Go.Bl

def sgnI (n : Int) : Int := Lib.compareInt n 0

end Go.Proofs.YtpdhbhlnopmifaaGreatDoor
