/-
  DERIVED. GIVEN WITH THE SEED: THE CARDS: each row of YthciblcokogkkaaGreatDoorRows.lean that lists a variable, with what it lists TIED to the program's text (the seventh form; the later family's looks); each row that meets fmt, with fmt's text TOLD by the authors' own Lean function (tested against real Go, not proved from fmt's source: count such statements apart). THE CARD IS WHAT COUNTS. Prove the row's statement (the work); the ties are given (YthciblcokogkkaaGreatDoorTie.lean); close each card by the builder's one call (the guide's Derived/Test/ToyasCard.lean, 'card_holds'). Laid BY PROGRAM, IN A SANDBOX (cutbox-door.mjs). By AI agents, Wed Nov 11 2026. No macro, syntax, notation, axiom, sorry.
-/
import Derived.Test.YthciblcokogkkaaGreatDoorRows
import GoSem.ClaimSeven
namespace Go.Proofs.YthciblcokogkkaaGreatDoor
namespace Rows

/-- THE TIED CARD OF 'blkeep1.BusyTimesAddUp'. -/
def busyTimesAddUpCard : Claim7 := { stood := { row := busyTimesAddUpRow, standIns := [], harness := (true, "0d95c0b2ca78b219ad4d59d19a47b7fea9b3e47e9203c0994d129c3bcc9e56f7"), looks := true }, kinds := [], alts := [], laidByText := true, laidKinds := [.data, .pinned], laidTests := true, laidLooks := .later }
def BusyTimesAddUpCardSaid : Prop := Claim7.holds Tryz.pinned (.plain (OpenSpec.ofChange busyTimesAddUpSpec)) busyTimesAddUpCard

/-- THE TIED CARD OF 'blkeep1.RefusedEventsChangeNothing'. -/
def refusedEventsChangeNothingCard : Claim7 := { stood := { row := refusedEventsChangeNothingRow, standIns := [], harness := (true, "0d95c0b2ca78b219ad4d59d19a47b7fea9b3e47e9203c0994d129c3bcc9e56f7"), looks := true }, kinds := [], alts := [], laidByText := true, laidKinds := [.data, .pinned], laidTests := true, laidLooks := .later }
def RefusedEventsChangeNothingCardSaid : Prop := Claim7.holds Tryz.pinned (.plain (OpenSpec.ofChange refusedEventsChangeNothingSpec)) refusedEventsChangeNothingCard

/-- THE TIED CARD OF 'bllaw1.PrintersFollowed'. -/
def printersFollowedCard : Claim7 := { stood := { row := printersFollowedRow, standIns := [], harness := (true, "0d95c0b2ca78b219ad4d59d19a47b7fea9b3e47e9203c0994d129c3bcc9e56f7"), looks := true }, kinds := [], alts := [], laidByText := true, laidKinds := [.data, .data, .data, .data, .sentinel, .sentinel, .pinned], laidTests := true, laidLooks := .later }
def PrintersFollowedCardSaid : Prop := Claim7.holds Tryz.pinned (.plain (OpenSpec.ofChange printersFollowedSpec)) printersFollowedCard

/-- THE SECOND FORM's CARD OF 'blkeep1.BusyTimesAddUp'. -/
def busyTimesAddUpUptoCard : Claim7 := { stood := { row := busyTimesAddUpUptoRow, standIns := [], harness := (true, "0d95c0b2ca78b219ad4d59d19a47b7fea9b3e47e9203c0994d129c3bcc9e56f7"), looks := true }, kinds := [], alts := [], laidByText := true, laidKinds := [.data, .pinned], laidTests := true, laidLooks := .later }
def BusyTimesAddUpUptoCardSaid : Prop := Claim7.holds Tryz.pinned (.plain (OpenSpec.upto busyTimesAddUpSpec)) busyTimesAddUpUptoCard

/-- THE SECOND FORM's CARD OF 'blkeep1.RefusedEventsChangeNothing'. -/
def refusedEventsChangeNothingUptoCard : Claim7 := { stood := { row := refusedEventsChangeNothingUptoRow, standIns := [], harness := (true, "0d95c0b2ca78b219ad4d59d19a47b7fea9b3e47e9203c0994d129c3bcc9e56f7"), looks := true }, kinds := [], alts := [], laidByText := true, laidKinds := [.data, .pinned], laidTests := true, laidLooks := .later }
def RefusedEventsChangeNothingUptoCardSaid : Prop := Claim7.holds Tryz.pinned (.plain (OpenSpec.upto refusedEventsChangeNothingSpec)) refusedEventsChangeNothingUptoCard

/-- THE SECOND FORM's CARD OF 'bllaw1.PrintersFollowed'. -/
def printersFollowedUptoCard : Claim7 := { stood := { row := printersFollowedUptoRow, standIns := [], harness := (true, "0d95c0b2ca78b219ad4d59d19a47b7fea9b3e47e9203c0994d129c3bcc9e56f7"), looks := true }, kinds := [], alts := [], laidByText := true, laidKinds := [.data, .data, .data, .data, .sentinel, .sentinel, .pinned], laidTests := true, laidLooks := .later }
def PrintersFollowedUptoCardSaid : Prop := Claim7.holds Tryz.pinned (.plain (OpenSpec.upto printersFollowedSpec)) printersFollowedUptoCard
end Rows
end Go.Proofs.YthciblcokogkkaaGreatDoor
