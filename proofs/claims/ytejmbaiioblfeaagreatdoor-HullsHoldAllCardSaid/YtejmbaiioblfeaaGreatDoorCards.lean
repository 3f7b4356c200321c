/-
  DERIVED. GIVEN WITH THE SEED: THE CARDS: each row of YtejmbaiioblfeaaGreatDoorRows.lean that lists a variable, with what it lists TIED to the program's text (the seventh form; the later family's looks); each row that meets fmt, with fmt's text TOLD by the authors' own Lean function (tested against real Go, not proved from fmt's source: count such statements apart). THE CARD IS WHAT COUNTS. Prove the row's statement (the work); the ties are given (YtejmbaiioblfeaaGreatDoorTie.lean); close each card by the builder's one call (the guide's Derived/Test/ToyasCard.lean, 'card_holds'). Laid BY PROGRAM, IN A SANDBOX (cutbox-door.mjs). By AI agents, Wed Nov 11 2026. No macro, syntax, notation, axiom, sorry.
-/
import Derived.Test.YtejmbaiioblfeaaGreatDoorRows
import GoSem.ClaimSeven
namespace Go.Proofs.YtejmbaiioblfeaaGreatDoor
namespace Rows

/-- THE TIED CARD OF 'blkeep1.NormalRegionsAreOne'. -/
def normalRegionsAreOneCard : Claim7 := { stood := { row := normalRegionsAreOneRow, standIns := [], harness := (true, "3f4da44c0f9d5307971e7e8cc6de3137768903b420d32f719448238cfbebd1e0"), looks := false }, kinds := [], alts := [], laidByText := true, laidKinds := [.data, .pinned], laidTests := true, laidLooks := .later }
def NormalRegionsAreOneCardSaid : Prop := Claim7.holds Tryz.pinned (.plain (OpenSpec.ofChange normalRegionsAreOneSpec)) normalRegionsAreOneCard

/-- THE TIED CARD OF 'blkeep1.HullsHoldAll'. -/
def hullsHoldAllCard : Claim7 := { stood := { row := hullsHoldAllRow, standIns := [], harness := (true, "3f4da44c0f9d5307971e7e8cc6de3137768903b420d32f719448238cfbebd1e0"), looks := false }, kinds := [], alts := [], laidByText := true, laidKinds := [.data, .pinned], laidTests := true, laidLooks := .later }
def HullsHoldAllCardSaid : Prop := Claim7.holds Tryz.pinned (.plain (OpenSpec.ofChange hullsHoldAllSpec)) hullsHoldAllCard

/-- THE SECOND FORM's CARD OF 'blkeep1.NormalRegionsAreOne'. -/
def normalRegionsAreOneUptoCard : Claim7 := { stood := { row := normalRegionsAreOneUptoRow, standIns := [], harness := (true, "3f4da44c0f9d5307971e7e8cc6de3137768903b420d32f719448238cfbebd1e0"), looks := false }, kinds := [], alts := [], laidByText := true, laidKinds := [.data, .pinned], laidTests := true, laidLooks := .later }
def NormalRegionsAreOneUptoCardSaid : Prop := Claim7.holds Tryz.pinned (.plain (OpenSpec.upto normalRegionsAreOneSpec)) normalRegionsAreOneUptoCard

/-- THE SECOND FORM's CARD OF 'blkeep1.HullsHoldAll'. -/
def hullsHoldAllUptoCard : Claim7 := { stood := { row := hullsHoldAllUptoRow, standIns := [], harness := (true, "3f4da44c0f9d5307971e7e8cc6de3137768903b420d32f719448238cfbebd1e0"), looks := false }, kinds := [], alts := [], laidByText := true, laidKinds := [.data, .pinned], laidTests := true, laidLooks := .later }
def HullsHoldAllUptoCardSaid : Prop := Claim7.holds Tryz.pinned (.plain (OpenSpec.upto hullsHoldAllSpec)) hullsHoldAllUptoCard
end Rows
end Go.Proofs.YtejmbaiioblfeaaGreatDoor
