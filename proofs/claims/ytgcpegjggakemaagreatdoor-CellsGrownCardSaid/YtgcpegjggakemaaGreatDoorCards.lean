/-
  DERIVED. GIVEN WITH THE SEED: THE CARDS: each row of YtgcpegjggakemaaGreatDoorRows.lean that lists a variable, with what it lists TIED to the program's text (the seventh form; the later family's looks); each row that meets fmt, with fmt's text TOLD by the authors' own Lean function (tested against real Go, not proved from fmt's source: count such statements apart). THE CARD IS WHAT COUNTS. Prove the row's statement (the work); the ties are given (YtgcpegjggakemaaGreatDoorTie.lean); close each card by the builder's one call (the guide's Derived/Test/ToyasCard.lean, 'card_holds'). Laid BY PROGRAM, IN A SANDBOX (cutbox-door.mjs). By AI agents, Wed Nov 11 2026. No macro, syntax, notation, axiom, sorry.
-/
import Derived.Test.YtgcpegjggakemaaGreatDoorRows
import GoSem.ClaimSeven
namespace Go.Proofs.YtgcpegjggakemaaGreatDoor
namespace Rows

/-- THE TIED CARD OF 'bllaw1.CellsFilled'. -/
def cellsFilledCard : Claim7 := { stood := { row := cellsFilledRow, standIns := [], harness := (true, "ca5e7e48c4805e378fdc0c760b7eec37c725699f238b3984df1c7b36168d25c7"), looks := false }, kinds := [], alts := [], laidByText := true, laidKinds := [.data, .pinned], laidTests := true, laidLooks := .later }
def CellsFilledCardSaid : Prop := Claim7.holds Tryz.pinned (.plain (OpenSpec.ofChange cellsFilledSpec)) cellsFilledCard

/-- THE TIED CARD OF 'bllaw1.CellsGrown'. -/
def cellsGrownCard : Claim7 := { stood := { row := cellsGrownRow, standIns := [], harness := (true, "ca5e7e48c4805e378fdc0c760b7eec37c725699f238b3984df1c7b36168d25c7"), looks := false }, kinds := [], alts := [], laidByText := true, laidKinds := [.data, .pinned], laidTests := true, laidLooks := .later }
def CellsGrownCardSaid : Prop := Claim7.holds Tryz.pinned (.plain (OpenSpec.ofChange cellsGrownSpec)) cellsGrownCard

/-- THE TIED CARD OF 'blkeep1.RegionsStay'. -/
def regionsStayCard : Claim7 := { stood := { row := regionsStayRow, standIns := [], harness := (true, "ca5e7e48c4805e378fdc0c760b7eec37c725699f238b3984df1c7b36168d25c7"), looks := false }, kinds := [], alts := [], laidByText := true, laidKinds := [.data, .pinned], laidTests := true, laidLooks := .later }
def RegionsStayCardSaid : Prop := Claim7.holds Tryz.pinned (.plain (OpenSpec.ofChange regionsStaySpec)) regionsStayCard

/-- THE SECOND FORM's CARD OF 'bllaw1.CellsFilled'. -/
def cellsFilledUptoCard : Claim7 := { stood := { row := cellsFilledUptoRow, standIns := [], harness := (true, "ca5e7e48c4805e378fdc0c760b7eec37c725699f238b3984df1c7b36168d25c7"), looks := false }, kinds := [], alts := [], laidByText := true, laidKinds := [.data, .pinned], laidTests := true, laidLooks := .later }
def CellsFilledUptoCardSaid : Prop := Claim7.holds Tryz.pinned (.plain (OpenSpec.upto cellsFilledSpec)) cellsFilledUptoCard

/-- THE SECOND FORM's CARD OF 'bllaw1.CellsGrown'. -/
def cellsGrownUptoCard : Claim7 := { stood := { row := cellsGrownUptoRow, standIns := [], harness := (true, "ca5e7e48c4805e378fdc0c760b7eec37c725699f238b3984df1c7b36168d25c7"), looks := false }, kinds := [], alts := [], laidByText := true, laidKinds := [.data, .pinned], laidTests := true, laidLooks := .later }
def CellsGrownUptoCardSaid : Prop := Claim7.holds Tryz.pinned (.plain (OpenSpec.upto cellsGrownSpec)) cellsGrownUptoCard

/-- THE SECOND FORM's CARD OF 'blkeep1.RegionsStay'. -/
def regionsStayUptoCard : Claim7 := { stood := { row := regionsStayUptoRow, standIns := [], harness := (true, "ca5e7e48c4805e378fdc0c760b7eec37c725699f238b3984df1c7b36168d25c7"), looks := false }, kinds := [], alts := [], laidByText := true, laidKinds := [.data, .pinned], laidTests := true, laidLooks := .later }
def RegionsStayUptoCardSaid : Prop := Claim7.holds Tryz.pinned (.plain (OpenSpec.upto regionsStaySpec)) regionsStayUptoCard
end Rows
end Go.Proofs.YtgcpegjggakemaaGreatDoor
