/- Contracts of functions that this seat's laws reach, each: what one call returns and what it leaves in memory; no condition beyond each theorem's own hypotheses. -/
import Derived.Test.YtpdhbhlnopmifaaGreatDoorZqRegRev
import Derived.Test.YtpdhbhlnopmifaaGreatDoorZqPathE
import Derived.Test.YtpdhbhlnopmifaaGreatDoorZqHead
set_option linter.unusedVariables false
set_option linter.unusedSimpArgs false
namespace Go.Bl
open Go

theorem Sl.drop {α : Type} [Enc α] {w : World} {lo g o : Nat} {l : List α} (h : Sl w lo (some ⟨g, o, none⟩) l) (k : Nat) : Sl w lo (some ⟨g, o + k * Enc.sz α, none⟩) (l.drop k) := by
  obtain ⟨hm, cs, hr, hl⟩ := h
  refine ⟨by rw [List.length_drop]; omega, _, hr.drop k, fun hne => ?_⟩
  obtain ⟨ad, e, hb, hc⟩ := hl (by rintro rfl; simp at hne)
  injection e with e
  subst e
  refine ⟨_, rfl, hb, fun j u hu => ?_⟩
  rw [List.getElem?_drop] at hu
  have := hc _ u hu
  rw [Addr.add_lit] at this ⊢
  rwa [Nat.add_assoc]

def VOwn {α : Type} [Enc α] (lo : Nat) (e : TypeId) (l : List α) : Value → World → Prop := fun v w => ∃ (A : Option Addr) (c : Nat), v = .slice A l.length c ∧ Own w lo e A c l
/-- a right visit of a path -/
def VOk (p : PathV) (s : Nat) (b : Bool) : Prop := p.pts.length ≤ 500 ∧ (∀ q ∈ p.pts, farP q = false) ∧ s < p.pts.length ∧ (p.cl = true → b = false) ∧ (p.cl = false → s = 0)

end Go.Bl
namespace Go.Proofs.YtpdhbhlnopmifaaGreatDoor
open Go.RowKit Go.Bl

def PPair (p q : Pt) (w : World) (e : Ending) (w' : World) : Prop := e = .returned (.tuple #[.agg #[.int .i64 p.x, .int .i64 p.y], .agg #[.int .i64 q.x, .int .i64 q.y]]) ∧ w.grownBy w' none

end Go.Proofs.YtpdhbhlnopmifaaGreatDoor

namespace Go.Bl
open Go Go.Proofs.YtpdhbhlnopmifaaGreatDoor

def endA (p : PathV) (s : Nat) (b : Bool) : Pt := if p.cl then p.pts.getD s default else if b then p.pts.getD (p.pts.length - 1) default else p.pts.getD 0 default

def endB (p : PathV) (s : Nat) (b : Bool) : Pt := if p.cl then p.pts.getD s default else if b then p.pts.getD 0 default else p.pts.getD (p.pts.length - 1) default

/-- a visit that is right among these paths -/
def VisOk (l : List PathV) (v : Vis) : Prop := ∃ (k s : Nat) (hk : k < l.length), v.path = (k : Int) ∧ v.start = (s : Int) ∧ VOk l[k] s v.back

def eA (l : List PathV) (v : Vis) : Pt := endA (l.getD v.path.toNat default) v.start.toNat v.back

def eB (l : List PathV) (v : Vis) : Pt := endB (l.getD v.path.toNat default) v.start.toNat v.back

def travS (l : List PathV) (st : Pt) (o : List Vis) : Pt × Int := o.foldl (fun a v => (eB l v, a.2 + distP a.1 (eA l v))) (st, 0)

end Go.Bl
namespace Go.Proofs.YtpdhbhlnopmifaaGreatDoor
open Go.RowKit Go.Bl

end Go.Proofs.YtpdhbhlnopmifaaGreatDoor

namespace Go.Proofs.YtpdhbhlnopmifaaGreatDoor
open Go.RowKit Go.Bl

end Go.Proofs.YtpdhbhlnopmifaaGreatDoor

namespace Go.Bl
open Go Go.Proofs.YtpdhbhlnopmifaaGreatDoor

def twoF (st : Pt) (l : List PathV) (o : List Vis) : Int := orS (pointsF [st]) (orderF l o)

def travO (st : Pt) (l : List PathV) (o : List Vis) : Int := if twoF st l o = 0 then (travS l st o).2 else 0

def tP (l : List PathV) (v : Vis) : List Pt := turned (l.getD v.path.toNat default) v

def tPO (l : List PathV) (v : Vis) : List Pt := if oneF l v = 0 then tP l v else []

def eAO (l : List PathV) (v : Vis) : Pt := if oneF l v = 0 then eA l v else ⟨0, 0⟩

def eBO (l : List PathV) (v : Vis) : Pt := if oneF l v = 0 then eB l v else ⟨0, 0⟩

end Go.Bl
namespace Go.Proofs.YtpdhbhlnopmifaaGreatDoor
open Go.RowKit Go.Bl

end Go.Proofs.YtpdhbhlnopmifaaGreatDoor

namespace Go.Proofs.YtpdhbhlnopmifaaGreatDoor
open Go.RowKit Go.Bl

def stepL (p : PathV) (i : Nat) : Int := if i = 0 then (if p.cl then distP (p.pts.getD (p.pts.length - 1) default) (p.pts.getD 0 default) else 0) else distP (p.pts.getD (i - 1) default) (p.pts.getD i default)

def longTo (p : PathV) (k : Nat) : Int := ((List.range k).map (stepL p)).sum

def longP (p : PathV) : Int := longTo p p.pts.length

def longs (l : List PathV) : List Int := l.map longP

def longSum (l : List PathV) : Int := (longs l).sum

def longF (l : List PathV) : List Int := if pathsF l = 0 then longs l else []

def longS (l : List PathV) : Int := if pathsF l = 0 then longSum l else 0

def onePath : List PathV := [⟨[⟨0, 0⟩, ⟨3, 2⟩], false⟩]

end Go.Proofs.YtpdhbhlnopmifaaGreatDoor
