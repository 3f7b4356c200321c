/-
  DERIVED. GIVEN WITH THE SEED: THE CARDS: each row of YtlfcgobmhbemoaaGreatDoorRows.lean that lists a variable, with what it lists TIED to the program's text (the seventh form; the later family's looks); each row that meets fmt, with fmt's text TOLD by the authors' own Lean function (tested against real Go, not proved from fmt's source: count such statements apart). THE CARD IS WHAT COUNTS. Prove the row's statement (the work); the ties are given (YtlfcgobmhbemoaaGreatDoorTie.lean); close each card by the builder's one call (the guide's Derived/Test/ToyasCard.lean, 'card_holds'). Laid BY PROGRAM, IN A SANDBOX (cutbox-door.mjs). By AI agents, Wed Nov 11 2026. No macro, syntax, notation, axiom, sorry.
-/
import Derived.Test.YtlfcgobmhbemoaaGreatDoorRows
import GoSem.ClaimSeven
namespace Go.Proofs.YtlfcgobmhbemoaaGreatDoor
namespace Rows

/-- THE TIED CARD OF 'bllaw1.CellsCombined'. -/
def cellsCombinedCard : Claim7 := { stood := { row := cellsCombinedRow, standIns := [], harness := (true, "7d90c9bf0c9b2a0a4252174235df9f0d5803a1b13282ea402be7eb214a898568"), looks := false }, kinds := [], alts := [], laidByText := true, laidKinds := [.data, .pinned], laidTests := true, laidLooks := .later }
def CellsCombinedCardSaid : Prop := Claim7.holds Tryz.pinned (.plain (OpenSpec.ofChange cellsCombinedSpec)) cellsCombinedCard

/-- THE TIED CARD OF 'blkeep1.CombinedAsSets'. -/
def combinedAsSetsCard : Claim7 := { stood := { row := combinedAsSetsRow, standIns := [], harness := (true, "7d90c9bf0c9b2a0a4252174235df9f0d5803a1b13282ea402be7eb214a898568"), looks := false }, kinds := [], alts := [], laidByText := true, laidKinds := [.data, .pinned], laidTests := true, laidLooks := .later }
def CombinedAsSetsCardSaid : Prop := Claim7.holds Tryz.pinned (.plain (OpenSpec.ofChange combinedAsSetsSpec)) combinedAsSetsCard

/-- THE TIED CARD OF 'blkeep1.ShrunkAndGrown'. -/
def shrunkAndGrownCard : Claim7 := { stood := { row := shrunkAndGrownRow, standIns := [], harness := (true, "7d90c9bf0c9b2a0a4252174235df9f0d5803a1b13282ea402be7eb214a898568"), looks := false }, kinds := [], alts := [], laidByText := true, laidKinds := [.data, .pinned], laidTests := true, laidLooks := .later }
def ShrunkAndGrownCardSaid : Prop := Claim7.holds Tryz.pinned (.plain (OpenSpec.ofChange shrunkAndGrownSpec)) shrunkAndGrownCard

/-- THE SECOND FORM's CARD OF 'bllaw1.CellsCombined'. -/
def cellsCombinedUptoCard : Claim7 := { stood := { row := cellsCombinedUptoRow, standIns := [], harness := (true, "7d90c9bf0c9b2a0a4252174235df9f0d5803a1b13282ea402be7eb214a898568"), looks := false }, kinds := [], alts := [], laidByText := true, laidKinds := [.data, .pinned], laidTests := true, laidLooks := .later }
def CellsCombinedUptoCardSaid : Prop := Claim7.holds Tryz.pinned (.plain (OpenSpec.upto cellsCombinedSpec)) cellsCombinedUptoCard

/-- THE SECOND FORM's CARD OF 'blkeep1.CombinedAsSets'. -/
def combinedAsSetsUptoCard : Claim7 := { stood := { row := combinedAsSetsUptoRow, standIns := [], harness := (true, "7d90c9bf0c9b2a0a4252174235df9f0d5803a1b13282ea402be7eb214a898568"), looks := false }, kinds := [], alts := [], laidByText := true, laidKinds := [.data, .pinned], laidTests := true, laidLooks := .later }
def CombinedAsSetsUptoCardSaid : Prop := Claim7.holds Tryz.pinned (.plain (OpenSpec.upto combinedAsSetsSpec)) combinedAsSetsUptoCard

/-- THE SECOND FORM's CARD OF 'blkeep1.ShrunkAndGrown'. -/
def shrunkAndGrownUptoCard : Claim7 := { stood := { row := shrunkAndGrownUptoRow, standIns := [], harness := (true, "7d90c9bf0c9b2a0a4252174235df9f0d5803a1b13282ea402be7eb214a898568"), looks := false }, kinds := [], alts := [], laidByText := true, laidKinds := [.data, .pinned], laidTests := true, laidLooks := .later }
def ShrunkAndGrownUptoCardSaid : Prop := Claim7.holds Tryz.pinned (.plain (OpenSpec.upto shrunkAndGrownSpec)) shrunkAndGrownUptoCard
end Rows
end Go.Proofs.YtlfcgobmhbemoaaGreatDoor
