/-
  DERIVED. GIVEN WITH THE SEED: THE CARDS: each row of YtmhnjpcjagbdhaaGreatDoorRows.lean that lists a variable, with what it lists TIED to the program's text (the seventh form; the later family's looks); each row that meets fmt, with fmt's text TOLD by the authors' own Lean function (tested against real Go, not proved from fmt's source: count such statements apart). THE CARD IS WHAT COUNTS. Prove the row's statement (the work); the ties are given (YtmhnjpcjagbdhaaGreatDoorTie.lean); close each card by the builder's one call (the guide's Derived/Test/ToyasCard.lean, 'card_holds'). Laid BY PROGRAM, IN A SANDBOX (cutbox-door.mjs). By AI agents, Wed Nov 11 2026. No macro, syntax, notation, axiom, sorry.
-/
import Derived.Test.YtmhnjpcjagbdhaaGreatDoorRows
import GoSem.ClaimSeven
namespace Go.Proofs.YtmhnjpcjagbdhaaGreatDoor
namespace Rows

/-- THE TIED CARD OF 'blkeep1.SimplifiedIsAsLarge'. -/
def simplifiedIsAsLargeCard : Claim7 := { stood := { row := simplifiedIsAsLargeRow, standIns := [], harness := (true, "5c99f330b0c9dfcff224bc1292c1311068a3f5cbe195e07ce935b8fe19f5080a"), looks := false }, kinds := [], alts := [], laidByText := true, laidKinds := [.data, .pinned], laidTests := true, laidLooks := .later }
def SimplifiedIsAsLargeCardSaid : Prop := Claim7.holds Tryz.pinned (.plain (OpenSpec.ofChange simplifiedIsAsLargeSpec)) simplifiedIsAsLargeCard

/-- THE SECOND FORM's CARD OF 'blkeep1.SimplifiedIsAsLarge'. -/
def simplifiedIsAsLargeUptoCard : Claim7 := { stood := { row := simplifiedIsAsLargeUptoRow, standIns := [], harness := (true, "5c99f330b0c9dfcff224bc1292c1311068a3f5cbe195e07ce935b8fe19f5080a"), looks := false }, kinds := [], alts := [], laidByText := true, laidKinds := [.data, .pinned], laidTests := true, laidLooks := .later }
def SimplifiedIsAsLargeUptoCardSaid : Prop := Claim7.holds Tryz.pinned (.plain (OpenSpec.upto simplifiedIsAsLargeSpec)) simplifiedIsAsLargeUptoCard
end Rows
end Go.Proofs.YtmhnjpcjagbdhaaGreatDoor
