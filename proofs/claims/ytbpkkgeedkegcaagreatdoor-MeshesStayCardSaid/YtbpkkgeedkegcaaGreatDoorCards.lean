/-
  DERIVED. GIVEN WITH THE SEED: THE CARDS: each row of YtbpkkgeedkegcaaGreatDoorRows.lean that lists a variable, with what it lists TIED to the program's text (the seventh form; the later family's looks); each row that meets fmt, with fmt's text TOLD by the authors' own Lean function (tested against real Go, not proved from fmt's source: count such statements apart). THE CARD IS WHAT COUNTS. Prove the row's statement (the work); the ties are given (YtbpkkgeedkegcaaGreatDoorTie.lean); close each card by the builder's one call (the guide's Derived/Test/ToyasCard.lean, 'card_holds'). Laid BY PROGRAM, IN A SANDBOX (cutbox-door.mjs). By AI agents, Wed Nov 11 2026. No macro, syntax, notation, axiom, sorry.
-/
import Derived.Test.YtbpkkgeedkegcaaGreatDoorRows
import GoSem.ClaimSeven
namespace Go.Proofs.YtbpkkgeedkegcaaGreatDoor
namespace Rows

/-- THE TIED CARD OF 'blkeep1.ShellsAreParts'. -/
def shellsArePartsCard : Claim7 := { stood := { row := shellsArePartsRow, standIns := [], harness := (true, "4e3f5b37f9e1a4820038cf18f335be4ff4cfe6260a4f95384345d6004c4a3d04"), looks := false }, kinds := [], alts := [], laidByText := true, laidKinds := [.data, .pinned], laidTests := true, laidLooks := .later }
def ShellsArePartsCardSaid : Prop := Claim7.holds Tryz.pinned (.plain (OpenSpec.ofChange shellsArePartsSpec)) shellsArePartsCard

/-- THE TIED CARD OF 'blkeep1.VolumesStay'. -/
def volumesStayCard : Claim7 := { stood := { row := volumesStayRow, standIns := [], harness := (true, "4e3f5b37f9e1a4820038cf18f335be4ff4cfe6260a4f95384345d6004c4a3d04"), looks := false }, kinds := [], alts := [], laidByText := true, laidKinds := [.data, .pinned], laidTests := true, laidLooks := .later }
def VolumesStayCardSaid : Prop := Claim7.holds Tryz.pinned (.plain (OpenSpec.ofChange volumesStaySpec)) volumesStayCard

/-- THE TIED CARD OF 'blkeep1.MeshesStay'. -/
def meshesStayCard : Claim7 := { stood := { row := meshesStayRow, standIns := [], harness := (true, "4e3f5b37f9e1a4820038cf18f335be4ff4cfe6260a4f95384345d6004c4a3d04"), looks := false }, kinds := [], alts := [], laidByText := true, laidKinds := [.data, .pinned], laidTests := true, laidLooks := .later }
def MeshesStayCardSaid : Prop := Claim7.holds Tryz.pinned (.plain (OpenSpec.ofChange meshesStaySpec)) meshesStayCard

/-- THE SECOND FORM's CARD OF 'blkeep1.ShellsAreParts'. -/
def shellsArePartsUptoCard : Claim7 := { stood := { row := shellsArePartsUptoRow, standIns := [], harness := (true, "4e3f5b37f9e1a4820038cf18f335be4ff4cfe6260a4f95384345d6004c4a3d04"), looks := false }, kinds := [], alts := [], laidByText := true, laidKinds := [.data, .pinned], laidTests := true, laidLooks := .later }
def ShellsArePartsUptoCardSaid : Prop := Claim7.holds Tryz.pinned (.plain (OpenSpec.upto shellsArePartsSpec)) shellsArePartsUptoCard

/-- THE SECOND FORM's CARD OF 'blkeep1.VolumesStay'. -/
def volumesStayUptoCard : Claim7 := { stood := { row := volumesStayUptoRow, standIns := [], harness := (true, "4e3f5b37f9e1a4820038cf18f335be4ff4cfe6260a4f95384345d6004c4a3d04"), looks := false }, kinds := [], alts := [], laidByText := true, laidKinds := [.data, .pinned], laidTests := true, laidLooks := .later }
def VolumesStayUptoCardSaid : Prop := Claim7.holds Tryz.pinned (.plain (OpenSpec.upto volumesStaySpec)) volumesStayUptoCard

/-- THE SECOND FORM's CARD OF 'blkeep1.MeshesStay'. -/
def meshesStayUptoCard : Claim7 := { stood := { row := meshesStayUptoRow, standIns := [], harness := (true, "4e3f5b37f9e1a4820038cf18f335be4ff4cfe6260a4f95384345d6004c4a3d04"), looks := false }, kinds := [], alts := [], laidByText := true, laidKinds := [.data, .pinned], laidTests := true, laidLooks := .later }
def MeshesStayUptoCardSaid : Prop := Claim7.holds Tryz.pinned (.plain (OpenSpec.upto meshesStaySpec)) meshesStayUptoCard
end Rows
end Go.Proofs.YtbpkkgeedkegcaaGreatDoor
