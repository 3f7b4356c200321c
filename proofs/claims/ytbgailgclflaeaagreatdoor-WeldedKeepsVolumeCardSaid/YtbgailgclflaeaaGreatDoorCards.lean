/-
  DERIVED. GIVEN WITH THE SEED: THE CARDS: each row of YtbgailgclflaeaaGreatDoorRows.lean that lists a variable, with what it lists TIED to the program's text (the seventh form; the later family's looks); each row that meets fmt, with fmt's text TOLD by the authors' own Lean function (tested against real Go, not proved from fmt's source: count such statements apart). THE CARD IS WHAT COUNTS. Prove the row's statement (the work); the ties are given (YtbgailgclflaeaaGreatDoorTie.lean); close each card by the builder's one call (the guide's Derived/Test/ToyasCard.lean, 'card_holds'). Laid BY PROGRAM, IN A SANDBOX (cutbox-door.mjs). By AI agents, Wed Nov 11 2026. No macro, syntax, notation, axiom, sorry.
-/
import Derived.Test.YtbgailgclflaeaaGreatDoorRows
import GoSem.ClaimSeven
namespace Go.Proofs.YtbgailgclflaeaaGreatDoor
namespace Rows

/-- THE TIED CARD OF 'blkeep1.OpenSidesAreOne'. -/
def openSidesAreOneCard : Claim7 := { stood := { row := openSidesAreOneRow, standIns := [], harness := (true, "d068a50bc350869941da80bea79a2d45239f87cbce181e0b3f5ed6fef99c5f84"), looks := false }, kinds := [], alts := [], laidByText := true, laidKinds := [.data, .pinned], laidTests := true, laidLooks := .later }
def OpenSidesAreOneCardSaid : Prop := Claim7.holds Tryz.pinned (.plain (OpenSpec.ofChange openSidesAreOneSpec)) openSidesAreOneCard

/-- THE TIED CARD OF 'blkeep1.PrintedBothWays'. -/
def printedBothWaysCard : Claim7 := { stood := { row := printedBothWaysRow, standIns := [], harness := (true, "d068a50bc350869941da80bea79a2d45239f87cbce181e0b3f5ed6fef99c5f84"), looks := false }, kinds := [], alts := [], laidByText := true, laidKinds := [.data, .pinned], laidTests := true, laidLooks := .later }
def PrintedBothWaysCardSaid : Prop := Claim7.holds Tryz.pinned (.plain (OpenSpec.ofChange printedBothWaysSpec)) printedBothWaysCard

/-- THE TIED CARD OF 'blkeep1.OverhangsTurnOver'. -/
def overhangsTurnOverCard : Claim7 := { stood := { row := overhangsTurnOverRow, standIns := [], harness := (true, "d068a50bc350869941da80bea79a2d45239f87cbce181e0b3f5ed6fef99c5f84"), looks := false }, kinds := [], alts := [], laidByText := true, laidKinds := [.data, .pinned], laidTests := true, laidLooks := .later }
def OverhangsTurnOverCardSaid : Prop := Claim7.holds Tryz.pinned (.plain (OpenSpec.ofChange overhangsTurnOverSpec)) overhangsTurnOverCard

/-- THE TIED CARD OF 'blkeep1.WeldedKeepsVolume'. -/
def weldedKeepsVolumeCard : Claim7 := { stood := { row := weldedKeepsVolumeRow, standIns := [], harness := (true, "d068a50bc350869941da80bea79a2d45239f87cbce181e0b3f5ed6fef99c5f84"), looks := false }, kinds := [], alts := [], laidByText := true, laidKinds := [.data, .pinned], laidTests := true, laidLooks := .later }
def WeldedKeepsVolumeCardSaid : Prop := Claim7.holds Tryz.pinned (.plain (OpenSpec.ofChange weldedKeepsVolumeSpec)) weldedKeepsVolumeCard

/-- THE SECOND FORM's CARD OF 'blkeep1.OpenSidesAreOne'. -/
def openSidesAreOneUptoCard : Claim7 := { stood := { row := openSidesAreOneUptoRow, standIns := [], harness := (true, "d068a50bc350869941da80bea79a2d45239f87cbce181e0b3f5ed6fef99c5f84"), looks := false }, kinds := [], alts := [], laidByText := true, laidKinds := [.data, .pinned], laidTests := true, laidLooks := .later }
def OpenSidesAreOneUptoCardSaid : Prop := Claim7.holds Tryz.pinned (.plain (OpenSpec.upto openSidesAreOneSpec)) openSidesAreOneUptoCard

/-- THE SECOND FORM's CARD OF 'blkeep1.PrintedBothWays'. -/
def printedBothWaysUptoCard : Claim7 := { stood := { row := printedBothWaysUptoRow, standIns := [], harness := (true, "d068a50bc350869941da80bea79a2d45239f87cbce181e0b3f5ed6fef99c5f84"), looks := false }, kinds := [], alts := [], laidByText := true, laidKinds := [.data, .pinned], laidTests := true, laidLooks := .later }
def PrintedBothWaysUptoCardSaid : Prop := Claim7.holds Tryz.pinned (.plain (OpenSpec.upto printedBothWaysSpec)) printedBothWaysUptoCard

/-- THE SECOND FORM's CARD OF 'blkeep1.OverhangsTurnOver'. -/
def overhangsTurnOverUptoCard : Claim7 := { stood := { row := overhangsTurnOverUptoRow, standIns := [], harness := (true, "d068a50bc350869941da80bea79a2d45239f87cbce181e0b3f5ed6fef99c5f84"), looks := false }, kinds := [], alts := [], laidByText := true, laidKinds := [.data, .pinned], laidTests := true, laidLooks := .later }
def OverhangsTurnOverUptoCardSaid : Prop := Claim7.holds Tryz.pinned (.plain (OpenSpec.upto overhangsTurnOverSpec)) overhangsTurnOverUptoCard

/-- THE SECOND FORM's CARD OF 'blkeep1.WeldedKeepsVolume'. -/
def weldedKeepsVolumeUptoCard : Claim7 := { stood := { row := weldedKeepsVolumeUptoRow, standIns := [], harness := (true, "d068a50bc350869941da80bea79a2d45239f87cbce181e0b3f5ed6fef99c5f84"), looks := false }, kinds := [], alts := [], laidByText := true, laidKinds := [.data, .pinned], laidTests := true, laidLooks := .later }
def WeldedKeepsVolumeUptoCardSaid : Prop := Claim7.holds Tryz.pinned (.plain (OpenSpec.upto weldedKeepsVolumeSpec)) weldedKeepsVolumeUptoCard
end Rows
end Go.Proofs.YtbgailgclflaeaaGreatDoor
