/-
  DERIVED. GIVEN WITH THE SEED: THE CARDS: each row of YtncplpbnhlodaaaGreatDoorRows.lean that lists a variable, with what it lists TIED to the program's text (the seventh form; the later family's looks); each row that meets fmt, with fmt's text TOLD by the authors' own Lean function (tested against real Go, not proved from fmt's source: count such statements apart). THE CARD IS WHAT COUNTS. Prove the row's statement (the work); the ties are given (YtncplpbnhlodaaaGreatDoorTie.lean); close each card by the builder's one call (the guide's Derived/Test/ToyasCard.lean, 'card_holds'). Laid BY PROGRAM, IN A SANDBOX (cutbox-door.mjs). By AI agents, Wed Nov 11 2026. No macro, syntax, notation, axiom, sorry.
-/
import Derived.Test.YtncplpbnhlodaaaGreatDoorRows
import GoSem.ClaimSeven
namespace Go.Proofs.YtncplpbnhlodaaaGreatDoor
namespace Rows

/-- THE TIED CARD OF 'bllaw1.SpoolsFollowed'. -/
def spoolsFollowedCard : Claim7 := { stood := { row := spoolsFollowedRow, standIns := [], harness := (true, "9b92c5755c4fa4a8074e084c99c58ee2b19a9a33a177020d0b952097b604b67c"), looks := true }, kinds := [], alts := [], laidByText := true, laidKinds := [.data, .data, .data, .data, .sentinel, .sentinel, .pinned], laidTests := true, laidLooks := .later }
def SpoolsFollowedCardSaid : Prop := Claim7.holds Tryz.pinned (.plain (OpenSpec.ofChange spoolsFollowedSpec)) spoolsFollowedCard

/-- THE SECOND FORM's CARD OF 'bllaw1.SpoolsFollowed'. -/
def spoolsFollowedUptoCard : Claim7 := { stood := { row := spoolsFollowedUptoRow, standIns := [], harness := (true, "9b92c5755c4fa4a8074e084c99c58ee2b19a9a33a177020d0b952097b604b67c"), looks := true }, kinds := [], alts := [], laidByText := true, laidKinds := [.data, .data, .data, .data, .sentinel, .sentinel, .pinned], laidTests := true, laidLooks := .later }
def SpoolsFollowedUptoCardSaid : Prop := Claim7.holds Tryz.pinned (.plain (OpenSpec.upto spoolsFollowedSpec)) spoolsFollowedUptoCard
end Rows
end Go.Proofs.YtncplpbnhlodaaaGreatDoor
