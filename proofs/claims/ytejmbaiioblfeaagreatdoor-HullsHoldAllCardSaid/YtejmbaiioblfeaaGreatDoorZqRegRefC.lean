/- Contracts of functions that this seat's laws reach, each: what one call returns and what it leaves in memory; no condition beyond each theorem's own hypotheses. -/
import Derived.Test.YtejmbaiioblfeaaGreatDoorZqRegRefA
import Derived.Test.YtejmbaiioblfeaaGreatDoorZqPtsCat
import Derived.Test.YtejmbaiioblfeaaGreatDoorZqFlowD
import Derived.Test.YtejmbaiioblfeaaGreatDoorZqJm
set_option linter.unusedVariables false
set_option linter.unusedSimpArgs false
namespace Go.Proofs.YtejmbaiioblfeaaGreatDoor
open Go Go.RowKit Go.Bl

theorem notinP_snoc {l : List Pt} {s : Pt} {k : Nat} (h : k < l.length) (h1 : s ∉ l.take k) (h2 : s ≠ l[k]) : s ∉ l.take (k + 1) := by
  rw [take_snoc h, List.mem_append]
  rintro (e | e)
  · exact h1 e
  · exact h2 (List.mem_singleton.1 e)

end Go.Proofs.YtejmbaiioblfeaaGreatDoor

namespace Go.Proofs.YtejmbaiioblfeaaGreatDoor
open Go Go.RowKit Go.Bl

def meetS (s x : Sg) : Bool := meetR s.a s.b x.a x.b
/-- a captured side, beside a row of sides: all are near -/
structure SgH (w : World) (gc : Nat) (s : Sg) (l : List Sg) : Prop where
  c0 : w.cell? ⟨gc, 0, none⟩ = some (.int .i64 s.a.x)
  c1 : w.cell? ⟨gc, 1, none⟩ = some (.int .i64 s.a.y)
  c2 : w.cell? ⟨gc, 2, none⟩ = some (.int .i64 s.b.x)
  c3 : w.cell? ⟨gc, 3, none⟩ = some (.int .i64 s.b.y)
  bs : bdP s.a ∧ bdP s.b
  bl : ∀ x ∈ l, bdP x.a ∧ bdP x.b

theorem SgH.gr {w w' : World} {gc : Nat} {s : Sg} {l : List Sg} (h : SgH w gc s l) (hg : w.grownBy w' none) : SgH w' gc s l := ⟨hg.k h.c0, hg.k h.c1, hg.k h.c2, hg.k h.c3, h.bs, h.bl⟩

end Go.Proofs.YtejmbaiioblfeaaGreatDoor
