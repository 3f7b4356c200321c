/-
  DERIVED. GIVEN WITH THE SEED: THE CARDS: each row of YtjfkglhodldkkaaDoorRows.lean that lists a variable, with what it lists TIED to the program's text (the seventh form; the later family's looks); each row that meets fmt, with fmt's text TOLD by the authors' own Lean function (tested against real Go, not proved from fmt's source: count such statements apart). THE CARD IS WHAT COUNTS. Prove the row's statement (the work); the ties are given (YtjfkglhodldkkaaDoorTie.lean); close each card by the builder's one call (the guide's Derived/Test/ToyasCard.lean, 'card_holds'). Laid BY PROGRAM, IN A SANDBOX (cutbox-door.mjs). By AI agents, Wed Nov 11 2026. No macro, syntax, notation, axiom, sorry.
-/
import Derived.Test.YtjfkglhodldkkaaDoorRows
import GoSem.ClaimSeven
namespace Go.Proofs.YtjfkglhodldkkaaDoor
namespace Rows

/-- THE TIED CARD OF 'blkeep1.FastestIsWithin'. -/
def fastestIsWithinCard : Claim7 := { stood := { row := fastestIsWithinRow, standIns := [], harness := (true, "e5bb1221a48eab6dd6e79d85aec3dec620520e2788697a59fe83b2b4eb0f3d48"), looks := false }, kinds := [], alts := [], laidByText := true, laidKinds := [.data, .pinned], laidTests := true, laidLooks := .later }
def FastestIsWithinCardSaid : Prop := Claim7.holds Tryd.pinned (.plain (OpenSpec.ofChange fastestIsWithinSpec)) fastestIsWithinCard

/-- THE TIED CARD OF 'blkeep1.NothingDrifts'. -/
def nothingDriftsCard : Claim7 := { stood := { row := nothingDriftsRow, standIns := [], harness := (true, "e5bb1221a48eab6dd6e79d85aec3dec620520e2788697a59fe83b2b4eb0f3d48"), looks := false }, kinds := [], alts := [], laidByText := true, laidKinds := [.data, .pinned], laidTests := true, laidLooks := .later }
def NothingDriftsCardSaid : Prop := Claim7.holds Tryd.pinned (.plain (OpenSpec.ofChange nothingDriftsSpec)) nothingDriftsCard

/-- THE SECOND FORM's CARD OF 'blkeep1.FastestIsWithin'. -/
def fastestIsWithinUptoCard : Claim7 := { stood := { row := fastestIsWithinUptoRow, standIns := [], harness := (true, "e5bb1221a48eab6dd6e79d85aec3dec620520e2788697a59fe83b2b4eb0f3d48"), looks := false }, kinds := [], alts := [], laidByText := true, laidKinds := [.data, .pinned], laidTests := true, laidLooks := .later }
def FastestIsWithinUptoCardSaid : Prop := Claim7.holds Tryd.pinned (.plain (OpenSpec.upto fastestIsWithinSpec)) fastestIsWithinUptoCard

/-- THE SECOND FORM's CARD OF 'blkeep1.NothingDrifts'. -/
def nothingDriftsUptoCard : Claim7 := { stood := { row := nothingDriftsUptoRow, standIns := [], harness := (true, "e5bb1221a48eab6dd6e79d85aec3dec620520e2788697a59fe83b2b4eb0f3d48"), looks := false }, kinds := [], alts := [], laidByText := true, laidKinds := [.data, .pinned], laidTests := true, laidLooks := .later }
def NothingDriftsUptoCardSaid : Prop := Claim7.holds Tryd.pinned (.plain (OpenSpec.upto nothingDriftsSpec)) nothingDriftsUptoCard
end Rows
end Go.Proofs.YtjfkglhodldkkaaDoor
