/-
  DERIVED. GIVEN WITH THE SEED: THE CARDS: each row of YtpdhbhlnopmifaaGreatDoorRows.lean that lists a variable, with what it lists TIED to the program's text (the seventh form; the later family's looks); each row that meets fmt, with fmt's text TOLD by the authors' own Lean function (tested against real Go, not proved from fmt's source: count such statements apart). THE CARD IS WHAT COUNTS. Prove the row's statement (the work); the ties are given (YtpdhbhlnopmifaaGreatDoorTie.lean); close each card by the builder's one call (the guide's Derived/Test/ToyasCard.lean, 'card_holds'). Laid BY PROGRAM, IN A SANDBOX (cutbox-door.mjs). By AI agents, Wed Nov 11 2026. No macro, syntax, notation, axiom, sorry.
-/
import Derived.Test.YtpdhbhlnopmifaaGreatDoorRows
import GoSem.ClaimSeven
namespace Go.Proofs.YtpdhbhlnopmifaaGreatDoor
namespace Rows

/-- THE TIED CARD OF 'bltop.TopJobsUseSpools'. -/
def topJobsUseSpoolsCard : Claim7 := { stood := { row := topJobsUseSpoolsRow, standIns := [], harness := (true, "ecd804722e19ba8f7641c5f1bbca37361e062500a23a7b3f6b997f2617a47fdc"), looks := false }, kinds := [], alts := [], laidByText := true, laidKinds := [.data, .pinned], laidTests := true, laidLooks := .later }
def TopJobsUseSpoolsCardSaid : Prop := Claim7.holds Tryz.pinned (.plain (OpenSpec.ofChange topJobsUseSpoolsSpec)) topJobsUseSpoolsCard

/-- THE TIED CARD OF 'blkeep1.FittedHaveEnough'. -/
def fittedHaveEnoughCard : Claim7 := { stood := { row := fittedHaveEnoughRow, standIns := [], harness := (true, "ecd804722e19ba8f7641c5f1bbca37361e062500a23a7b3f6b997f2617a47fdc"), looks := false }, kinds := [], alts := [], laidByText := true, laidKinds := [.data, .pinned], laidTests := true, laidLooks := .later }
def FittedHaveEnoughCardSaid : Prop := Claim7.holds Tryz.pinned (.plain (OpenSpec.ofChange fittedHaveEnoughSpec)) fittedHaveEnoughCard

/-- THE TIED CARD OF 'bllaw1.NeedsFitted'. -/
def needsFittedCard : Claim7 := { stood := { row := needsFittedRow, standIns := [], harness := (true, "ecd804722e19ba8f7641c5f1bbca37361e062500a23a7b3f6b997f2617a47fdc"), looks := false }, kinds := [], alts := [], laidByText := true, laidKinds := [.data, .pinned], laidTests := true, laidLooks := .later }
def NeedsFittedCardSaid : Prop := Claim7.holds Tryz.pinned (.plain (OpenSpec.ofChange needsFittedSpec)) needsFittedCard

/-- THE SECOND FORM's CARD OF 'bltop.TopJobsUseSpools'. -/
def topJobsUseSpoolsUptoCard : Claim7 := { stood := { row := topJobsUseSpoolsUptoRow, standIns := [], harness := (true, "ecd804722e19ba8f7641c5f1bbca37361e062500a23a7b3f6b997f2617a47fdc"), looks := false }, kinds := [], alts := [], laidByText := true, laidKinds := [.data, .pinned], laidTests := true, laidLooks := .later }
def TopJobsUseSpoolsUptoCardSaid : Prop := Claim7.holds Tryz.pinned (.plain (OpenSpec.upto topJobsUseSpoolsSpec)) topJobsUseSpoolsUptoCard

/-- THE SECOND FORM's CARD OF 'blkeep1.FittedHaveEnough'. -/
def fittedHaveEnoughUptoCard : Claim7 := { stood := { row := fittedHaveEnoughUptoRow, standIns := [], harness := (true, "ecd804722e19ba8f7641c5f1bbca37361e062500a23a7b3f6b997f2617a47fdc"), looks := false }, kinds := [], alts := [], laidByText := true, laidKinds := [.data, .pinned], laidTests := true, laidLooks := .later }
def FittedHaveEnoughUptoCardSaid : Prop := Claim7.holds Tryz.pinned (.plain (OpenSpec.upto fittedHaveEnoughSpec)) fittedHaveEnoughUptoCard

/-- THE SECOND FORM's CARD OF 'bllaw1.NeedsFitted'. -/
def needsFittedUptoCard : Claim7 := { stood := { row := needsFittedUptoRow, standIns := [], harness := (true, "ecd804722e19ba8f7641c5f1bbca37361e062500a23a7b3f6b997f2617a47fdc"), looks := false }, kinds := [], alts := [], laidByText := true, laidKinds := [.data, .pinned], laidTests := true, laidLooks := .later }
def NeedsFittedUptoCardSaid : Prop := Claim7.holds Tryz.pinned (.plain (OpenSpec.upto needsFittedSpec)) needsFittedUptoCard
end Rows
end Go.Proofs.YtpdhbhlnopmifaaGreatDoor
