/-
  DERIVED. GIVEN WITH THE SEED: THE CARDS: each row of YtanioobepfllgaaGreatDoorRows.lean that lists a variable, with what it lists TIED to the program's text (the seventh form; the later family's looks); each row that meets fmt, with fmt's text TOLD by the authors' own Lean function (tested against real Go, not proved from fmt's source: count such statements apart). THE CARD IS WHAT COUNTS. Prove the row's statement (the work); the ties are given (YtanioobepfllgaaGreatDoorTie.lean); close each card by the builder's one call (the guide's Derived/Test/ToyasCard.lean, 'card_holds'). Laid BY PROGRAM, IN A SANDBOX (cutbox-door.mjs). By AI agents, Wed Nov 11 2026. No macro, syntax, notation, axiom, sorry.
-/
import Derived.Test.YtanioobepfllgaaGreatDoorRows
import GoSem.ClaimSeven
namespace Go.Proofs.YtanioobepfllgaaGreatDoor
namespace Rows

/-- THE TIED CARD OF 'blkeep1.NoPlanEndsEarlier'. -/
def noPlanEndsEarlierCard : Claim7 := { stood := { row := noPlanEndsEarlierRow, standIns := [], harness := (true, "49e64e394396519de2a3919d9180cc8d595ff84b9cb4d9bab60ad734d8cdcfaa"), looks := false }, kinds := [], alts := [], laidByText := true, laidKinds := [.data, .pinned], laidTests := true, laidLooks := .later }
def NoPlanEndsEarlierCardSaid : Prop := Claim7.holds Tryz.pinned (.plain (OpenSpec.ofChange noPlanEndsEarlierSpec)) noPlanEndsEarlierCard

/-- THE TIED CARD OF 'blkeep1.FarmsStay'. -/
def farmsStayCard : Claim7 := { stood := { row := farmsStayRow, standIns := [], harness := (true, "49e64e394396519de2a3919d9180cc8d595ff84b9cb4d9bab60ad734d8cdcfaa"), looks := false }, kinds := [], alts := [], laidByText := true, laidKinds := [.data, .pinned], laidTests := true, laidLooks := .later }
def FarmsStayCardSaid : Prop := Claim7.holds Tryz.pinned (.plain (OpenSpec.ofChange farmsStaySpec)) farmsStayCard

/-- THE SECOND FORM's CARD OF 'blkeep1.NoPlanEndsEarlier'. -/
def noPlanEndsEarlierUptoCard : Claim7 := { stood := { row := noPlanEndsEarlierUptoRow, standIns := [], harness := (true, "49e64e394396519de2a3919d9180cc8d595ff84b9cb4d9bab60ad734d8cdcfaa"), looks := false }, kinds := [], alts := [], laidByText := true, laidKinds := [.data, .pinned], laidTests := true, laidLooks := .later }
def NoPlanEndsEarlierUptoCardSaid : Prop := Claim7.holds Tryz.pinned (.plain (OpenSpec.upto noPlanEndsEarlierSpec)) noPlanEndsEarlierUptoCard

/-- THE SECOND FORM's CARD OF 'blkeep1.FarmsStay'. -/
def farmsStayUptoCard : Claim7 := { stood := { row := farmsStayUptoRow, standIns := [], harness := (true, "49e64e394396519de2a3919d9180cc8d595ff84b9cb4d9bab60ad734d8cdcfaa"), looks := false }, kinds := [], alts := [], laidByText := true, laidKinds := [.data, .pinned], laidTests := true, laidLooks := .later }
def FarmsStayUptoCardSaid : Prop := Claim7.holds Tryz.pinned (.plain (OpenSpec.upto farmsStaySpec)) farmsStayUptoCard
end Rows
end Go.Proofs.YtanioobepfllgaaGreatDoor
