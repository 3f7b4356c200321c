/-
  DERIVED. GIVEN WITH THE SEED: THE CARDS: each row of YtfleljmmfkkkpaaGreatDoorRows.lean that lists a variable, with what it lists TIED to the program's text (the seventh form; the later family's looks); each row that meets fmt, with fmt's text TOLD by the authors' own Lean function (tested against real Go, not proved from fmt's source: count such statements apart). THE CARD IS WHAT COUNTS. Prove the row's statement (the work); the ties are given (YtfleljmmfkkkpaaGreatDoorTie.lean); close each card by the builder's one call (the guide's Derived/Test/ToyasCard.lean, 'card_holds'). Laid BY PROGRAM, IN A SANDBOX (cutbox-door.mjs). By AI agents, Wed Nov 11 2026. No macro, syntax, notation, axiom, sorry.
-/
import Derived.Test.YtfleljmmfkkkpaaGreatDoorRows
import GoSem.ClaimSeven
namespace Go.Proofs.YtfleljmmfkkkpaaGreatDoor
namespace Rows

/-- THE TIED CARD OF 'blkeep1.EventsComeBack'. -/
def eventsComeBackCard : Claim7 := { stood := { row := eventsComeBackRow, standIns := [], harness := (true, "6db718f5de4fdc0a5e378720538b0b0b576375188e41150fb962e5dcc3b8f090"), looks := true }, kinds := [], alts := [], laidByText := true, laidKinds := [.data, .data, .data, .data, .sentinel, .sentinel, .pinned], laidTests := true, laidLooks := .later }
def EventsComeBackCardSaid : Prop := Claim7.holds Tryz.pinned (.plain (OpenSpec.ofChange eventsComeBackSpec)) eventsComeBackCard

/-- THE SECOND FORM's CARD OF 'blkeep1.EventsComeBack'. -/
def eventsComeBackUptoCard : Claim7 := { stood := { row := eventsComeBackUptoRow, standIns := [], harness := (true, "6db718f5de4fdc0a5e378720538b0b0b576375188e41150fb962e5dcc3b8f090"), looks := true }, kinds := [], alts := [], laidByText := true, laidKinds := [.data, .data, .data, .data, .sentinel, .sentinel, .pinned], laidTests := true, laidLooks := .later }
def EventsComeBackUptoCardSaid : Prop := Claim7.holds Tryz.pinned (.plain (OpenSpec.upto eventsComeBackSpec)) eventsComeBackUptoCard
end Rows
end Go.Proofs.YtfleljmmfkkkpaaGreatDoor
