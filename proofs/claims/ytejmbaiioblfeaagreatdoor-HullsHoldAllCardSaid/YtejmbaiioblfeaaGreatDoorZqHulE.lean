/- Contracts of functions that this seat's laws reach, each: what one call returns and what it leaves in memory; no condition beyond each theorem's own hypotheses. -/
import Derived.Test.YtejmbaiioblfeaaGreatDoorZqHulD
import Derived.Test.YtejmbaiioblfeaaGreatDoorZqPtsCat
import Derived.Test.YtejmbaiioblfeaaGreatDoorZqPathF
set_option linter.unusedVariables false
set_option linter.unusedSimpArgs false
namespace Go.Proofs.YtejmbaiioblfeaaGreatDoor
open Go Go.RowKit Go.Bl

theorem sl_two (w : World) (lo : Nat) (t : TypeId) (A B : Option Addr) (a b : List Pt) (na nb ca cb : Nat) (hna : na = a.length) (hnb : nb = b.length) (ha : na ≤ ca) (hb : nb ≤ cb) (hA : Sl w lo A a) (hB : Sl w lo B b) (hlo : lo ≤ w.heap.size) :
    Sl (w.alloc (.cells #[.slice A na ca, .slice B nb cb] t)) lo (some ⟨w.heap.size, 0, none⟩) [a, b] := by
  subst hna hnb
  have hg := gr_alloc (World.grownBy.refl w none) (.cells #[.slice A a.length ca, .slice B b.length cb] t)
  exact sl_lit w lo [.slice A a.length ca, .slice B b.length cb] t [a, b] hlo (by simp [maxLen]) ⟨_, _, rfl, ⟨A, ca, rfl, ha, hA.pure hg⟩, _, [], rfl, ⟨B, cb, rfl, hb, hB.pure hg⟩, rfl⟩

theorem bd_of_far {p : Pt} (h : farP p = false) : bdP p := by
  simp only [farP, outB, Bool.or_eq_false_iff, decide_eq_false_iff_not] at h
  unfold bdP; omega

def HullOut (w : World) (e : Ending) (w' : World) : Prop :=
  (∃ E : Int, E ≠ 0 ∧ e = .returned (.tuple #[.slice none 0 0, .int .i64 E]) ∧ w.grownBy w' none) ∨ ∃ (A' : Option Addr) (c' : Nat) (out : List Pt), e = .returned (.tuple #[.slice A' out.length c', .int .i64 0]) ∧ Own w' w.heap.size 29 A' c' out ∧ w.grownBy w' none

end Go.Proofs.YtejmbaiioblfeaaGreatDoor
