/- Contracts of functions that this seat's laws reach, each: what one call returns and what it leaves in memory; no condition beyond each theorem's own hypotheses. -/
import Derived.Test.YtfleljmmfkkkpaaGreatDoorZqPathE
import Derived.Test.YtfleljmmfkkkpaaGreatDoorZqKit3
set_option linter.unusedVariables false
set_option linter.unusedSimpArgs false
namespace Go.Proofs.YtfleljmmfkkkpaaGreatDoor
open Go.RowKit Go.Bl

def dist (a b : Pt) : Int := max (max (a.x - b.x) (-(a.x - b.x))) (max (a.y - b.y) (-(a.y - b.y)))

theorem dist_eq (a b : Pt) : dist a b = distP a b := by unfold dist distP; omega

def near (p : Pt) : Prop := (-100000 ≤ p.x ∧ p.x ≤ 100000) ∧ (-100000 ≤ p.y ∧ p.y ≤ 100000)

theorem near_of {p : Pt} (h : farP p = false) : near p := by
  unfold farP at h
  rw [Bool.or_eq_false_iff] at h
  exact ⟨outB_false h.1, outB_false h.2⟩

theorem distP_bd {a b : Pt} (ha : near a) (hb : near b) : 0 ≤ distP a b ∧ distP a b ≤ 200000 := by unfold near at ha hb; unfold distP; omega

end Go.Proofs.YtfleljmmfkkkpaaGreatDoor
