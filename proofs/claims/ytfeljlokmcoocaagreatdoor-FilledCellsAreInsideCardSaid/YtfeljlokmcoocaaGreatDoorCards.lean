/-
  DERIVED. GIVEN WITH THE SEED: THE CARDS: each row of YtfeljlokmcoocaaGreatDoorRows.lean that lists a variable, with what it lists TIED to the program's text (the seventh form; the later family's looks); each row that meets fmt, with fmt's text TOLD by the authors' own Lean function (tested against real Go, not proved from fmt's source: count such statements apart). THE CARD IS WHAT COUNTS. Prove the row's statement (the work); the ties are given (YtfeljlokmcoocaaGreatDoorTie.lean); close each card by the builder's one call (the guide's Derived/Test/ToyasCard.lean, 'card_holds'). Laid BY PROGRAM, IN A SANDBOX (cutbox-door.mjs). By AI agents, Wed Nov 11 2026. No macro, syntax, notation, axiom, sorry.
-/
import Derived.Test.YtfeljlokmcoocaaGreatDoorRows
import GoSem.ClaimSeven
namespace Go.Proofs.YtfeljlokmcoocaaGreatDoor
namespace Rows

/-- THE TIED CARD OF 'bllaw1.CellsFilled'. -/
def cellsFilledCard : Claim7 := { stood := { row := cellsFilledRow, standIns := [], harness := (true, "8a96aa97808168ec3233c352b84aa8e16838adae7bc936c997e58a4f85e33bcd"), looks := false }, kinds := [], alts := [], laidByText := true, laidKinds := [.data, .pinned], laidTests := true, laidLooks := .later }
def CellsFilledCardSaid : Prop := Claim7.holds Tryz.pinned (.plain (OpenSpec.ofChange cellsFilledSpec)) cellsFilledCard

/-- THE TIED CARD OF 'blkeep1.FilledCellsAreInside'. -/
def filledCellsAreInsideCard : Claim7 := { stood := { row := filledCellsAreInsideRow, standIns := [], harness := (true, "8a96aa97808168ec3233c352b84aa8e16838adae7bc936c997e58a4f85e33bcd"), looks := false }, kinds := [], alts := [], laidByText := true, laidKinds := [.data, .pinned], laidTests := true, laidLooks := .later }
def FilledCellsAreInsideCardSaid : Prop := Claim7.holds Tryz.pinned (.plain (OpenSpec.ofChange filledCellsAreInsideSpec)) filledCellsAreInsideCard

/-- THE TIED CARD OF 'blkeep1.RegionsStay'. -/
def regionsStayCard : Claim7 := { stood := { row := regionsStayRow, standIns := [], harness := (true, "8a96aa97808168ec3233c352b84aa8e16838adae7bc936c997e58a4f85e33bcd"), looks := false }, kinds := [], alts := [], laidByText := true, laidKinds := [.data, .pinned], laidTests := true, laidLooks := .later }
def RegionsStayCardSaid : Prop := Claim7.holds Tryz.pinned (.plain (OpenSpec.ofChange regionsStaySpec)) regionsStayCard

/-- THE SECOND FORM's CARD OF 'bllaw1.CellsFilled'. -/
def cellsFilledUptoCard : Claim7 := { stood := { row := cellsFilledUptoRow, standIns := [], harness := (true, "8a96aa97808168ec3233c352b84aa8e16838adae7bc936c997e58a4f85e33bcd"), looks := false }, kinds := [], alts := [], laidByText := true, laidKinds := [.data, .pinned], laidTests := true, laidLooks := .later }
def CellsFilledUptoCardSaid : Prop := Claim7.holds Tryz.pinned (.plain (OpenSpec.upto cellsFilledSpec)) cellsFilledUptoCard

/-- THE SECOND FORM's CARD OF 'blkeep1.FilledCellsAreInside'. -/
def filledCellsAreInsideUptoCard : Claim7 := { stood := { row := filledCellsAreInsideUptoRow, standIns := [], harness := (true, "8a96aa97808168ec3233c352b84aa8e16838adae7bc936c997e58a4f85e33bcd"), looks := false }, kinds := [], alts := [], laidByText := true, laidKinds := [.data, .pinned], laidTests := true, laidLooks := .later }
def FilledCellsAreInsideUptoCardSaid : Prop := Claim7.holds Tryz.pinned (.plain (OpenSpec.upto filledCellsAreInsideSpec)) filledCellsAreInsideUptoCard

/-- THE SECOND FORM's CARD OF 'blkeep1.RegionsStay'. -/
def regionsStayUptoCard : Claim7 := { stood := { row := regionsStayUptoRow, standIns := [], harness := (true, "8a96aa97808168ec3233c352b84aa8e16838adae7bc936c997e58a4f85e33bcd"), looks := false }, kinds := [], alts := [], laidByText := true, laidKinds := [.data, .pinned], laidTests := true, laidLooks := .later }
def RegionsStayUptoCardSaid : Prop := Claim7.holds Tryz.pinned (.plain (OpenSpec.upto regionsStaySpec)) regionsStayUptoCard
end Rows
end Go.Proofs.YtfeljlokmcoocaaGreatDoor
