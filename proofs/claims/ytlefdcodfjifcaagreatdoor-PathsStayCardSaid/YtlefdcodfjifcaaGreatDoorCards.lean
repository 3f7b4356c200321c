/-
  DERIVED. GIVEN WITH THE SEED: THE CARDS: each row of YtlefdcodfjifcaaGreatDoorRows.lean that lists a variable, with what it lists TIED to the program's text (the seventh form; the later family's looks); each row that meets fmt, with fmt's text TOLD by the authors' own Lean function (tested against real Go, not proved from fmt's source: count such statements apart). THE CARD IS WHAT COUNTS. Prove the row's statement (the work); the ties are given (YtlefdcodfjifcaaGreatDoorTie.lean); close each card by the builder's one call (the guide's Derived/Test/ToyasCard.lean, 'card_holds'). Laid BY PROGRAM, IN A SANDBOX (cutbox-door.mjs). By AI agents, Wed Nov 11 2026. No macro, syntax, notation, axiom, sorry.
-/
import Derived.Test.YtlefdcodfjifcaaGreatDoorRows
import GoSem.ClaimSeven
namespace Go.Proofs.YtlefdcodfjifcaaGreatDoor
namespace Rows

/-- THE TIED CARD OF 'blkeep1.ChainedAreAsLong'. -/
def chainedAreAsLongCard : Claim7 := { stood := { row := chainedAreAsLongRow, standIns := [], harness := (true, "202016479323ee568deabf73769df4007333bc73270c5f183312a1922a42e099"), looks := false }, kinds := [], alts := [], laidByText := true, laidKinds := [.data, .pinned], laidTests := true, laidLooks := .later }
def ChainedAreAsLongCardSaid : Prop := Claim7.holds Tryz.pinned (.plain (OpenSpec.ofChange chainedAreAsLongSpec)) chainedAreAsLongCard

/-- THE TIED CARD OF 'blkeep1.FlowsStay'. -/
def flowsStayCard : Claim7 := { stood := { row := flowsStayRow, standIns := [], harness := (true, "202016479323ee568deabf73769df4007333bc73270c5f183312a1922a42e099"), looks := false }, kinds := [], alts := [], laidByText := true, laidKinds := [.data, .pinned], laidTests := true, laidLooks := .later }
def FlowsStayCardSaid : Prop := Claim7.holds Tryz.pinned (.plain (OpenSpec.ofChange flowsStaySpec)) flowsStayCard

/-- THE TIED CARD OF 'blkeep1.FreeTravelMeetsNothing'. -/
def freeTravelMeetsNothingCard : Claim7 := { stood := { row := freeTravelMeetsNothingRow, standIns := [], harness := (true, "202016479323ee568deabf73769df4007333bc73270c5f183312a1922a42e099"), looks := false }, kinds := [], alts := [], laidByText := true, laidKinds := [.data, .pinned], laidTests := true, laidLooks := .later }
def FreeTravelMeetsNothingCardSaid : Prop := Claim7.holds Tryz.pinned (.plain (OpenSpec.ofChange freeTravelMeetsNothingSpec)) freeTravelMeetsNothingCard

/-- THE TIED CARD OF 'blkeep1.FilamentAddsUp'. -/
def filamentAddsUpCard : Claim7 := { stood := { row := filamentAddsUpRow, standIns := [], harness := (true, "202016479323ee568deabf73769df4007333bc73270c5f183312a1922a42e099"), looks := false }, kinds := [], alts := [], laidByText := true, laidKinds := [.data, .pinned], laidTests := true, laidLooks := .later }
def FilamentAddsUpCardSaid : Prop := Claim7.holds Tryz.pinned (.plain (OpenSpec.ofChange filamentAddsUpSpec)) filamentAddsUpCard

/-- THE TIED CARD OF 'blkeep1.PathsStay'. -/
def pathsStayCard : Claim7 := { stood := { row := pathsStayRow, standIns := [], harness := (true, "202016479323ee568deabf73769df4007333bc73270c5f183312a1922a42e099"), looks := false }, kinds := [], alts := [], laidByText := true, laidKinds := [.data, .pinned], laidTests := true, laidLooks := .later }
def PathsStayCardSaid : Prop := Claim7.holds Tryz.pinned (.plain (OpenSpec.ofChange pathsStaySpec)) pathsStayCard

/-- THE SECOND FORM's CARD OF 'blkeep1.ChainedAreAsLong'. -/
def chainedAreAsLongUptoCard : Claim7 := { stood := { row := chainedAreAsLongUptoRow, standIns := [], harness := (true, "202016479323ee568deabf73769df4007333bc73270c5f183312a1922a42e099"), looks := false }, kinds := [], alts := [], laidByText := true, laidKinds := [.data, .pinned], laidTests := true, laidLooks := .later }
def ChainedAreAsLongUptoCardSaid : Prop := Claim7.holds Tryz.pinned (.plain (OpenSpec.upto chainedAreAsLongSpec)) chainedAreAsLongUptoCard

/-- THE SECOND FORM's CARD OF 'blkeep1.FlowsStay'. -/
def flowsStayUptoCard : Claim7 := { stood := { row := flowsStayUptoRow, standIns := [], harness := (true, "202016479323ee568deabf73769df4007333bc73270c5f183312a1922a42e099"), looks := false }, kinds := [], alts := [], laidByText := true, laidKinds := [.data, .pinned], laidTests := true, laidLooks := .later }
def FlowsStayUptoCardSaid : Prop := Claim7.holds Tryz.pinned (.plain (OpenSpec.upto flowsStaySpec)) flowsStayUptoCard

/-- THE SECOND FORM's CARD OF 'blkeep1.FreeTravelMeetsNothing'. -/
def freeTravelMeetsNothingUptoCard : Claim7 := { stood := { row := freeTravelMeetsNothingUptoRow, standIns := [], harness := (true, "202016479323ee568deabf73769df4007333bc73270c5f183312a1922a42e099"), looks := false }, kinds := [], alts := [], laidByText := true, laidKinds := [.data, .pinned], laidTests := true, laidLooks := .later }
def FreeTravelMeetsNothingUptoCardSaid : Prop := Claim7.holds Tryz.pinned (.plain (OpenSpec.upto freeTravelMeetsNothingSpec)) freeTravelMeetsNothingUptoCard

/-- THE SECOND FORM's CARD OF 'blkeep1.FilamentAddsUp'. -/
def filamentAddsUpUptoCard : Claim7 := { stood := { row := filamentAddsUpUptoRow, standIns := [], harness := (true, "202016479323ee568deabf73769df4007333bc73270c5f183312a1922a42e099"), looks := false }, kinds := [], alts := [], laidByText := true, laidKinds := [.data, .pinned], laidTests := true, laidLooks := .later }
def FilamentAddsUpUptoCardSaid : Prop := Claim7.holds Tryz.pinned (.plain (OpenSpec.upto filamentAddsUpSpec)) filamentAddsUpUptoCard

/-- THE SECOND FORM's CARD OF 'blkeep1.PathsStay'. -/
def pathsStayUptoCard : Claim7 := { stood := { row := pathsStayUptoRow, standIns := [], harness := (true, "202016479323ee568deabf73769df4007333bc73270c5f183312a1922a42e099"), looks := false }, kinds := [], alts := [], laidByText := true, laidKinds := [.data, .pinned], laidTests := true, laidLooks := .later }
def PathsStayUptoCardSaid : Prop := Claim7.holds Tryz.pinned (.plain (OpenSpec.upto pathsStaySpec)) pathsStayUptoCard
end Rows
end Go.Proofs.YtlefdcodfjifcaaGreatDoor
