/-
  DERIVED. GIVEN WITH THE SEED: THE CARDS: each row of YtcglkjpfnnehhaaGreatDoorRows.lean that lists a variable, with what it lists TIED to the program's text (the seventh form; the later family's looks); each row that meets fmt, with fmt's text TOLD by the authors' own Lean function (tested against real Go, not proved from fmt's source: count such statements apart). THE CARD IS WHAT COUNTS. Prove the row's statement (the work); the ties are given (YtcglkjpfnnehhaaGreatDoorTie.lean); close each card by the builder's one call (the guide's Derived/Test/ToyasCard.lean, 'card_holds'). Laid BY PROGRAM, IN A SANDBOX (cutbox-door.mjs). By AI agents, Wed Nov 11 2026. No macro, syntax, notation, axiom, sorry.
-/
import Derived.Test.YtcglkjpfnnehhaaGreatDoorRows
import GoSem.ClaimSeven
namespace Go.Proofs.YtcglkjpfnnehhaaGreatDoor
namespace Rows

/-- THE TIED CARD OF 'bllaw1.MeshesChecked'. -/
def meshesCheckedCard : Claim7 := { stood := { row := meshesCheckedRow, standIns := [], harness := (true, "224cb985db457d9441ed1fdb69b3704da76950512eebe6a37b5068452b25316b"), looks := true }, kinds := [], alts := [], laidByText := true, laidKinds := [.data, .data, .data, .data, .sentinel, .sentinel, .pinned], laidTests := true, laidLooks := .later }
def MeshesCheckedCardSaid : Prop := Claim7.holds Tryz.pinned (.plain (OpenSpec.ofChange meshesCheckedSpec)) meshesCheckedCard

/-- THE TIED CARD OF 'blkeep1.MeshesComeBack'. -/
def meshesComeBackCard : Claim7 := { stood := { row := meshesComeBackRow, standIns := [], harness := (true, "224cb985db457d9441ed1fdb69b3704da76950512eebe6a37b5068452b25316b"), looks := true }, kinds := [], alts := [], laidByText := true, laidKinds := [.data, .data, .data, .data, .sentinel, .sentinel, .pinned], laidTests := true, laidLooks := .later }
def MeshesComeBackCardSaid : Prop := Claim7.holds Tryz.pinned (.plain (OpenSpec.ofChange meshesComeBackSpec)) meshesComeBackCard

/-- THE SECOND FORM's CARD OF 'bllaw1.MeshesChecked'. -/
def meshesCheckedUptoCard : Claim7 := { stood := { row := meshesCheckedUptoRow, standIns := [], harness := (true, "224cb985db457d9441ed1fdb69b3704da76950512eebe6a37b5068452b25316b"), looks := true }, kinds := [], alts := [], laidByText := true, laidKinds := [.data, .data, .data, .data, .sentinel, .sentinel, .pinned], laidTests := true, laidLooks := .later }
def MeshesCheckedUptoCardSaid : Prop := Claim7.holds Tryz.pinned (.plain (OpenSpec.upto meshesCheckedSpec)) meshesCheckedUptoCard

/-- THE SECOND FORM's CARD OF 'blkeep1.MeshesComeBack'. -/
def meshesComeBackUptoCard : Claim7 := { stood := { row := meshesComeBackUptoRow, standIns := [], harness := (true, "224cb985db457d9441ed1fdb69b3704da76950512eebe6a37b5068452b25316b"), looks := true }, kinds := [], alts := [], laidByText := true, laidKinds := [.data, .data, .data, .data, .sentinel, .sentinel, .pinned], laidTests := true, laidLooks := .later }
def MeshesComeBackUptoCardSaid : Prop := Claim7.holds Tryz.pinned (.plain (OpenSpec.upto meshesComeBackSpec)) meshesComeBackUptoCard
end Rows
end Go.Proofs.YtcglkjpfnnehhaaGreatDoor
