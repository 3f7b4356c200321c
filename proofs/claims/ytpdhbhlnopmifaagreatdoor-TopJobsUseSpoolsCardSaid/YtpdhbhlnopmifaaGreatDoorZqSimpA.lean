/- Contracts of functions that this seat's laws reach, each: what one call returns and what it leaves in memory; no condition beyond each theorem's own hypotheses. -/
import Derived.Test.YtpdhbhlnopmifaaGreatDoorZqRegRefA
import Derived.Test.YtpdhbhlnopmifaaGreatDoorZqRegH
import Derived.Test.YtpdhbhlnopmifaaGreatDoorZqRegGenB
import Derived.Test.YtpdhbhlnopmifaaGreatDoorZqMostData
import Derived.Test.YtpdhbhlnopmifaaGreatDoorZqGrS
set_option linter.unusedVariables false
set_option linter.unusedSimpArgs false
namespace Go.Proofs.YtpdhbhlnopmifaaGreatDoor
open Go Go.RowKit Go.Bl

def crs (a b p : Pt) : Bool := (decide (a.y > p.y) != decide (b.y > p.y)) && (decide (turnP a b p > 0) == decide (b.y > a.y))

/-- where both ways are, a b is on the left of p q -/
def Lft (a b p q : Pt) : Prop := (a.y < b.y → a.y ≤ p.y → p.y ≤ b.y → turnP a b p < 0) ∧ (a.y < b.y → a.y ≤ q.y → q.y ≤ b.y → turnP a b q < 0) ∧
  (p.y < q.y → p.y ≤ a.y → a.y ≤ q.y → 0 < turnP p q a) ∧ (p.y < q.y → p.y ≤ b.y → b.y ≤ q.y → 0 < turnP p q b)

/-- above p, not above q, and on the right of p q -/
def ins (p q v : Pt) : Bool := decide (p.y < v.y ∧ v.y ≤ q.y ∧ turnP p q v < 0)

def insW (p q v : Pt) : Bool := if p.y ≤ q.y then ins p q v else ins q p v

end Go.Proofs.YtpdhbhlnopmifaaGreatDoor

namespace Go.Proofs.YtpdhbhlnopmifaaGreatDoor
open Go Go.RowKit Go.Bl

structure CM {G : Type} (op : G → G → G) (e : G) : Prop where
  assoc : ∀ a b c, op (op a b) c = op a (op b c)
  comm : ∀ a b, op a b = op b a
  idr : ∀ a, op a e = a

def foldW {G : Type} (op : G → G → G) (e : G) (F : Nat → G) (s : Nat) : Nat → G
  | 0 => e
  | k + 1 => op (foldW op e F s k) (F (s + k))

/-- a right ring, as what goes round -/
structure RR (n : Nat) (f : Nat → Pt) : Prop where
  n3 : 3 ≤ n
  per : ∀ i, f (i + n) = f i
  inj : ∀ i j, i < j → j < i + n → f i ≠ f j
  fold : ∀ i, foldB (f (i + 1)) (f i) (f (i + 2)) = false
  side : ∀ i j, i + 2 ≤ j → j + 2 ≤ i + n → meetM (f i) (f (i + 1)) (f j) (f (j + 1)) = false

def vecF (f : Nat → Pt) (k : Nat) : Pt := subP (f (k + 1)) (f k)

def dblP (a b : Pt) : Int := a.x * b.y - a.y * b.x

theorem sub_zero (a : Pt) : ∀ u, ¬ parV u (subP a a) := by
  intro u h
  have := h.2
  have e : doV u (subP a a) = 0 := by unfold doV subP; simp
  omega

/-- the corner's turn -/
def tzF (n : Nat) (f : Nat → Pt) (k : Nat) : Int := turnP (f (k + n - 1)) (f k) (f (k + 1))

/-- the corners that are not straight -/
def keepI (r : List Pt) : List Nat := (List.range r.length).filter fun k => decide (tzF r.length (cor r) k ≠ 0)

def simpR (r : List Pt) : List Pt := (keepI r).map (cor r)

def sgI (r : List Pt) (i : Nat) : Nat := (keepI r).getD (i % (keepI r).length) 0 + r.length * (i / (keepI r).length)

end Go.Proofs.YtpdhbhlnopmifaaGreatDoor

namespace Go.Bl
open Go

end Go.Bl
namespace Go.Proofs.YtpdhbhlnopmifaaGreatDoor
open Go Go.RowKit Go.Bl

def simpS (rs : List (List Pt)) : List (List Pt) := rs.map simpR

/-- no two rings have a point in common -/
def Apart (rs : List (List Pt)) : Prop := ∀ i j, i < rs.length → j < rs.length → i ≠ j → ∀ a b, meetM (cor (rs.getD i []) a) (cor (rs.getD i []) (a + 1)) (cor (rs.getD j []) b) (cor (rs.getD j []) (b + 1)) = false

structure ROk2 (rs : List (List Pt)) : Prop where
  few : rs.length ≤ 100
  flat : (flatK rs rs.length).length ≤ 2000
  ring : ∀ r ∈ rs, ringF r = 0
  apart : Apart rs

end Go.Proofs.YtpdhbhlnopmifaaGreatDoor

namespace Go.Proofs.YtpdhbhlnopmifaaGreatDoor
open Go Go.RowKit Go.Bl

def simpK (r : List Pt) (j : Nat) : List Pt := ((List.range j).filter fun k => decide (tzF r.length (cor r) k ≠ 0)).map (cor r)

end Go.Proofs.YtpdhbhlnopmifaaGreatDoor
