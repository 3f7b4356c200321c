/-
  DERIVED. GIVEN WITH THE SEED: THE CARDS: each row of YtoldefommoiiiaaGreatDoorRows.lean that lists a variable, with what it lists TIED to the program's text (the seventh form; the later family's looks); each row that meets fmt, with fmt's text TOLD by the authors' own Lean function (tested against real Go, not proved from fmt's source: count such statements apart). THE CARD IS WHAT COUNTS. Prove the row's statement (the work); the ties are given (YtoldefommoiiiaaGreatDoorTie.lean); close each card by the builder's one call (the guide's Derived/Test/ToyasCard.lean, 'card_holds'). Laid BY PROGRAM, IN A SANDBOX (cutbox-door.mjs). By AI agents, Wed Nov 11 2026. No macro, syntax, notation, axiom, sorry.
-/
import Derived.Test.YtoldefommoiiiaaGreatDoorRows
import GoSem.ClaimSeven
namespace Go.Proofs.YtoldefommoiiiaaGreatDoor
namespace Rows

/-- THE TIED CARD OF 'bllaw1.RegionsChecked'. -/
def regionsCheckedCard : Claim7 := { stood := { row := regionsCheckedRow, standIns := [], harness := (true, "23d618c9c0d8cf44b145e657c21f38835f56b3a9d8f76a8e450b0839db4db179"), looks := true }, kinds := [], alts := [], laidByText := true, laidKinds := [.data, .data, .data, .data, .sentinel, .sentinel, .pinned], laidTests := true, laidLooks := .later }
def RegionsCheckedCardSaid : Prop := Claim7.holds Tryz.pinned (.plain (OpenSpec.ofChange regionsCheckedSpec)) regionsCheckedCard

/-- THE TIED CARD OF 'blkeep1.RegionsComeBack'. -/
def regionsComeBackCard : Claim7 := { stood := { row := regionsComeBackRow, standIns := [], harness := (true, "23d618c9c0d8cf44b145e657c21f38835f56b3a9d8f76a8e450b0839db4db179"), looks := true }, kinds := [], alts := [], laidByText := true, laidKinds := [.data, .data, .data, .data, .sentinel, .sentinel, .pinned], laidTests := true, laidLooks := .later }
def RegionsComeBackCardSaid : Prop := Claim7.holds Tryz.pinned (.plain (OpenSpec.ofChange regionsComeBackSpec)) regionsComeBackCard

/-- THE SECOND FORM's CARD OF 'bllaw1.RegionsChecked'. -/
def regionsCheckedUptoCard : Claim7 := { stood := { row := regionsCheckedUptoRow, standIns := [], harness := (true, "23d618c9c0d8cf44b145e657c21f38835f56b3a9d8f76a8e450b0839db4db179"), looks := true }, kinds := [], alts := [], laidByText := true, laidKinds := [.data, .data, .data, .data, .sentinel, .sentinel, .pinned], laidTests := true, laidLooks := .later }
def RegionsCheckedUptoCardSaid : Prop := Claim7.holds Tryz.pinned (.plain (OpenSpec.upto regionsCheckedSpec)) regionsCheckedUptoCard

/-- THE SECOND FORM's CARD OF 'blkeep1.RegionsComeBack'. -/
def regionsComeBackUptoCard : Claim7 := { stood := { row := regionsComeBackUptoRow, standIns := [], harness := (true, "23d618c9c0d8cf44b145e657c21f38835f56b3a9d8f76a8e450b0839db4db179"), looks := true }, kinds := [], alts := [], laidByText := true, laidKinds := [.data, .data, .data, .data, .sentinel, .sentinel, .pinned], laidTests := true, laidLooks := .later }
def RegionsComeBackUptoCardSaid : Prop := Claim7.holds Tryz.pinned (.plain (OpenSpec.upto regionsComeBackSpec)) regionsComeBackUptoCard
end Rows
end Go.Proofs.YtoldefommoiiiaaGreatDoor
