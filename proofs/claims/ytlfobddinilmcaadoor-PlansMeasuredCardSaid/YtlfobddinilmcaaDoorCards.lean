/-
  DERIVED. GIVEN WITH THE SEED: THE CARDS: each row of YtlfobddinilmcaaDoorRows.lean that lists a variable, with what it lists TIED to the program's text (the seventh form; the later family's looks); each row that meets fmt, with fmt's text TOLD by the authors' own Lean function (tested against real Go, not proved from fmt's source: count such statements apart). THE CARD IS WHAT COUNTS. Prove the row's statement (the work); the ties are given (YtlfobddinilmcaaDoorTie.lean); close each card by the builder's one call (the guide's Derived/Test/ToyasCard.lean, 'card_holds'). Laid BY PROGRAM, IN A SANDBOX (cutbox-door.mjs). By AI agents, Wed Nov 11 2026. No macro, syntax, notation, axiom, sorry.
-/
import Derived.Test.YtlfobddinilmcaaDoorRows
import GoSem.ClaimSeven
namespace Go.Proofs.YtlfobddinilmcaaDoor
namespace Rows

/-- THE TIED CARD OF 'bllaw1.PlansMeasured'. -/
def plansMeasuredCard : Claim7 := { stood := { row := plansMeasuredRow, standIns := [], harness := (true, "826067c588cfff4d7b5dca52aaea63775368b5b4455dbe38c46e21e0d37c2d45"), looks := false }, kinds := [], alts := [], laidByText := true, laidKinds := [.data, .pinned], laidTests := true, laidLooks := .later }
def PlansMeasuredCardSaid : Prop := Claim7.holds Tryd.pinned (.plain (OpenSpec.ofChange plansMeasuredSpec)) plansMeasuredCard

/-- THE TIED CARD OF 'bllaw1.PlansMade'. -/
def plansMadeCard : Claim7 := { stood := { row := plansMadeRow, standIns := [], harness := (true, "826067c588cfff4d7b5dca52aaea63775368b5b4455dbe38c46e21e0d37c2d45"), looks := false }, kinds := [], alts := [], laidByText := true, laidKinds := [.data, .pinned], laidTests := true, laidLooks := .later }
def PlansMadeCardSaid : Prop := Claim7.holds Tryd.pinned (.plain (OpenSpec.ofChange plansMadeSpec)) plansMadeCard

/-- THE SECOND FORM's CARD OF 'bllaw1.PlansMeasured'. -/
def plansMeasuredUptoCard : Claim7 := { stood := { row := plansMeasuredUptoRow, standIns := [], harness := (true, "826067c588cfff4d7b5dca52aaea63775368b5b4455dbe38c46e21e0d37c2d45"), looks := false }, kinds := [], alts := [], laidByText := true, laidKinds := [.data, .pinned], laidTests := true, laidLooks := .later }
def PlansMeasuredUptoCardSaid : Prop := Claim7.holds Tryd.pinned (.plain (OpenSpec.upto plansMeasuredSpec)) plansMeasuredUptoCard

/-- THE SECOND FORM's CARD OF 'bllaw1.PlansMade'. -/
def plansMadeUptoCard : Claim7 := { stood := { row := plansMadeUptoRow, standIns := [], harness := (true, "826067c588cfff4d7b5dca52aaea63775368b5b4455dbe38c46e21e0d37c2d45"), looks := false }, kinds := [], alts := [], laidByText := true, laidKinds := [.data, .pinned], laidTests := true, laidLooks := .later }
def PlansMadeUptoCardSaid : Prop := Claim7.holds Tryd.pinned (.plain (OpenSpec.upto plansMadeSpec)) plansMadeUptoCard
end Rows
end Go.Proofs.YtlfobddinilmcaaDoor
