/-
  DERIVED. GIVEN WITH THE SEED: THE CARDS: each row of YtphkcafmbbeodaaGreatDoorRows.lean that lists a variable, with what it lists TIED to the program's text (the seventh form; the later family's looks); each row that meets fmt, with fmt's text TOLD by the authors' own Lean function (tested against real Go, not proved from fmt's source: count such statements apart). THE CARD IS WHAT COUNTS. Prove the row's statement (the work); the ties are given (YtphkcafmbbeodaaGreatDoorTie.lean); close each card by the builder's one call (the guide's Derived/Test/ToyasCard.lean, 'card_holds'). Laid BY PROGRAM, IN A SANDBOX (cutbox-door.mjs). By AI agents, Wed Nov 11 2026. No macro, syntax, notation, axiom, sorry.
-/
import Derived.Test.YtphkcafmbbeodaaGreatDoorRows
import GoSem.ClaimSeven
namespace Go.Proofs.YtphkcafmbbeodaaGreatDoor
namespace Rows

/-- THE TIED CARD OF 'bllaw1.CellsGrown'. -/
def cellsGrownCard : Claim7 := { stood := { row := cellsGrownRow, standIns := [], harness := (true, "c763241d45c585c33c20edaecbc10652a29b664d0e2f9ad9e3607a4367666b68"), looks := false }, kinds := [], alts := [], laidByText := true, laidKinds := [.data, .pinned], laidTests := true, laidLooks := .later }
def CellsGrownCardSaid : Prop := Claim7.holds Tryz.pinned (.plain (OpenSpec.ofChange cellsGrownSpec)) cellsGrownCard

/-- THE TIED CARD OF 'blkeep1.PartsAreAll'. -/
def partsAreAllCard : Claim7 := { stood := { row := partsAreAllRow, standIns := [], harness := (true, "c763241d45c585c33c20edaecbc10652a29b664d0e2f9ad9e3607a4367666b68"), looks := false }, kinds := [], alts := [], laidByText := true, laidKinds := [.data, .pinned], laidTests := true, laidLooks := .later }
def PartsAreAllCardSaid : Prop := Claim7.holds Tryz.pinned (.plain (OpenSpec.ofChange partsAreAllSpec)) partsAreAllCard

/-- THE SECOND FORM's CARD OF 'bllaw1.CellsGrown'. -/
def cellsGrownUptoCard : Claim7 := { stood := { row := cellsGrownUptoRow, standIns := [], harness := (true, "c763241d45c585c33c20edaecbc10652a29b664d0e2f9ad9e3607a4367666b68"), looks := false }, kinds := [], alts := [], laidByText := true, laidKinds := [.data, .pinned], laidTests := true, laidLooks := .later }
def CellsGrownUptoCardSaid : Prop := Claim7.holds Tryz.pinned (.plain (OpenSpec.upto cellsGrownSpec)) cellsGrownUptoCard

/-- THE SECOND FORM's CARD OF 'blkeep1.PartsAreAll'. -/
def partsAreAllUptoCard : Claim7 := { stood := { row := partsAreAllUptoRow, standIns := [], harness := (true, "c763241d45c585c33c20edaecbc10652a29b664d0e2f9ad9e3607a4367666b68"), looks := false }, kinds := [], alts := [], laidByText := true, laidKinds := [.data, .pinned], laidTests := true, laidLooks := .later }
def PartsAreAllUptoCardSaid : Prop := Claim7.holds Tryz.pinned (.plain (OpenSpec.upto partsAreAllSpec)) partsAreAllUptoCard
end Rows
end Go.Proofs.YtphkcafmbbeodaaGreatDoor
