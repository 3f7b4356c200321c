/-
  DERIVED. GIVEN WITH THE SEED: THE CARDS: each row of YtmgcohfeijcgdaaGreatDoorRows.lean that lists a variable, with what it lists TIED to the program's text (the seventh form; the later family's looks); each row that meets fmt, with fmt's text TOLD by the authors' own Lean function (tested against real Go, not proved from fmt's source: count such statements apart). THE CARD IS WHAT COUNTS. Prove the row's statement (the work); the ties are given (YtmgcohfeijcgdaaGreatDoorTie.lean); close each card by the builder's one call (the guide's Derived/Test/ToyasCard.lean, 'card_holds'). Laid BY PROGRAM, IN A SANDBOX (cutbox-door.mjs). By AI agents, Wed Nov 11 2026. No macro, syntax, notation, axiom, sorry.
-/
import Derived.Test.YtmgcohfeijcgdaaGreatDoorRows
import GoSem.ClaimSeven
namespace Go.Proofs.YtmgcohfeijcgdaaGreatDoor
namespace Rows

/-- THE TIED CARD OF 'bllaw1.PathsChecked'. -/
def pathsCheckedCard : Claim7 := { stood := { row := pathsCheckedRow, standIns := [], harness := (true, "5a3fed1058dd558d88e904ce6ded3a8fb1d3bc19f45dc2443cb9beb7b7f3bf70"), looks := true }, kinds := [], alts := [], laidByText := true, laidKinds := [.data, .data, .data, .data, .sentinel, .sentinel, .pinned], laidTests := true, laidLooks := .later }
def PathsCheckedCardSaid : Prop := Claim7.holds Tryz.pinned (.plain (OpenSpec.ofChange pathsCheckedSpec)) pathsCheckedCard

/-- THE TIED CARD OF 'blkeep1.PathsComeBack'. -/
def pathsComeBackCard : Claim7 := { stood := { row := pathsComeBackRow, standIns := [], harness := (true, "5a3fed1058dd558d88e904ce6ded3a8fb1d3bc19f45dc2443cb9beb7b7f3bf70"), looks := true }, kinds := [], alts := [], laidByText := true, laidKinds := [.data, .data, .data, .data, .sentinel, .sentinel, .pinned], laidTests := true, laidLooks := .later }
def PathsComeBackCardSaid : Prop := Claim7.holds Tryz.pinned (.plain (OpenSpec.ofChange pathsComeBackSpec)) pathsComeBackCard

/-- THE SECOND FORM's CARD OF 'bllaw1.PathsChecked'. -/
def pathsCheckedUptoCard : Claim7 := { stood := { row := pathsCheckedUptoRow, standIns := [], harness := (true, "5a3fed1058dd558d88e904ce6ded3a8fb1d3bc19f45dc2443cb9beb7b7f3bf70"), looks := true }, kinds := [], alts := [], laidByText := true, laidKinds := [.data, .data, .data, .data, .sentinel, .sentinel, .pinned], laidTests := true, laidLooks := .later }
def PathsCheckedUptoCardSaid : Prop := Claim7.holds Tryz.pinned (.plain (OpenSpec.upto pathsCheckedSpec)) pathsCheckedUptoCard

/-- THE SECOND FORM's CARD OF 'blkeep1.PathsComeBack'. -/
def pathsComeBackUptoCard : Claim7 := { stood := { row := pathsComeBackUptoRow, standIns := [], harness := (true, "5a3fed1058dd558d88e904ce6ded3a8fb1d3bc19f45dc2443cb9beb7b7f3bf70"), looks := true }, kinds := [], alts := [], laidByText := true, laidKinds := [.data, .data, .data, .data, .sentinel, .sentinel, .pinned], laidTests := true, laidLooks := .later }
def PathsComeBackUptoCardSaid : Prop := Claim7.holds Tryz.pinned (.plain (OpenSpec.upto pathsComeBackSpec)) pathsComeBackUptoCard
end Rows
end Go.Proofs.YtmgcohfeijcgdaaGreatDoor
