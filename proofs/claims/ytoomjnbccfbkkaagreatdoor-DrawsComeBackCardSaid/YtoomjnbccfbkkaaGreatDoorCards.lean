/-
  DERIVED. GIVEN WITH THE SEED: THE CARDS: each row of YtoomjnbccfbkkaaGreatDoorRows.lean that lists a variable, with what it lists TIED to the program's text (the seventh form; the later family's looks); each row that meets fmt, with fmt's text TOLD by the authors' own Lean function (tested against real Go, not proved from fmt's source: count such statements apart). THE CARD IS WHAT COUNTS. Prove the row's statement (the work); the ties are given (YtoomjnbccfbkkaaGreatDoorTie.lean); close each card by the builder's one call (the guide's Derived/Test/ToyasCard.lean, 'card_holds'). Laid BY PROGRAM, IN A SANDBOX (cutbox-door.mjs). By AI agents, Wed Nov 11 2026. No macro, syntax, notation, axiom, sorry.
-/
import Derived.Test.YtoomjnbccfbkkaaGreatDoorRows
import GoSem.ClaimSeven
namespace Go.Proofs.YtoomjnbccfbkkaaGreatDoor
namespace Rows

/-- THE TIED CARD OF 'blkeep1.DrawsComeBack'. -/
def drawsComeBackCard : Claim7 := { stood := { row := drawsComeBackRow, standIns := [], harness := (true, "40d8c6f9608eac8b91207ac73b6c10ea0c6b4afe0e60fc6f571052df12b9cfc5"), looks := true }, kinds := [], alts := [], laidByText := true, laidKinds := [.data, .data, .data, .data, .sentinel, .sentinel, .pinned], laidTests := true, laidLooks := .later }
def DrawsComeBackCardSaid : Prop := Claim7.holds Tryz.pinned (.plain (OpenSpec.ofChange drawsComeBackSpec)) drawsComeBackCard

/-- THE SECOND FORM's CARD OF 'blkeep1.DrawsComeBack'. -/
def drawsComeBackUptoCard : Claim7 := { stood := { row := drawsComeBackUptoRow, standIns := [], harness := (true, "40d8c6f9608eac8b91207ac73b6c10ea0c6b4afe0e60fc6f571052df12b9cfc5"), looks := true }, kinds := [], alts := [], laidByText := true, laidKinds := [.data, .data, .data, .data, .sentinel, .sentinel, .pinned], laidTests := true, laidLooks := .later }
def DrawsComeBackUptoCardSaid : Prop := Claim7.holds Tryz.pinned (.plain (OpenSpec.upto drawsComeBackSpec)) drawsComeBackUptoCard
end Rows
end Go.Proofs.YtoomjnbccfbkkaaGreatDoor
