/-
  DERIVED. GIVEN WITH THE SEED: THE CARDS: each row of YtcjocckpbgihcaaGreatDoorRows.lean that lists a variable, with what it lists TIED to the program's text (the seventh form; the later family's looks); each row that meets fmt, with fmt's text TOLD by the authors' own Lean function (tested against real Go, not proved from fmt's source: count such statements apart). THE CARD IS WHAT COUNTS. Prove the row's statement (the work); the ties are given (YtcjocckpbgihcaaGreatDoorTie.lean); close each card by the builder's one call (the guide's Derived/Test/ToyasCard.lean, 'card_holds'). Laid BY PROGRAM, IN A SANDBOX (cutbox-door.mjs). By AI agents, Wed Nov 11 2026. No macro, syntax, notation, axiom, sorry.
-/
import Derived.Test.YtcjocckpbgihcaaGreatDoorRows
import GoSem.ClaimSeven
namespace Go.Proofs.YtcjocckpbgihcaaGreatDoor
namespace Rows

/-- THE TIED CARD OF 'blkeep1.LeastLateIsLeast'. -/
def leastLateIsLeastCard : Claim7 := { stood := { row := leastLateIsLeastRow, standIns := [], harness := (true, "89de3ac0ce568d2f1260afbb3b67ccffa5d591d6cfe4c8e1109ace2f091a8ba4"), looks := false }, kinds := [], alts := [], laidByText := true, laidKinds := [.data, .pinned], laidTests := true, laidLooks := .later }
def LeastLateIsLeastCardSaid : Prop := Claim7.holds Tryz.pinned (.plain (OpenSpec.ofChange leastLateIsLeastSpec)) leastLateIsLeastCard

/-- THE SECOND FORM's CARD OF 'blkeep1.LeastLateIsLeast'. -/
def leastLateIsLeastUptoCard : Claim7 := { stood := { row := leastLateIsLeastUptoRow, standIns := [], harness := (true, "89de3ac0ce568d2f1260afbb3b67ccffa5d591d6cfe4c8e1109ace2f091a8ba4"), looks := false }, kinds := [], alts := [], laidByText := true, laidKinds := [.data, .pinned], laidTests := true, laidLooks := .later }
def LeastLateIsLeastUptoCardSaid : Prop := Claim7.holds Tryz.pinned (.plain (OpenSpec.upto leastLateIsLeastSpec)) leastLateIsLeastUptoCard
end Rows
end Go.Proofs.YtcjocckpbgihcaaGreatDoor
