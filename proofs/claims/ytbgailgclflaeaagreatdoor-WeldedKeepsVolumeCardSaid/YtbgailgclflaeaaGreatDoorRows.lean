/-
  NARROWER THAN 'FOR EVERY INPUT', by the rows' own cells (each row's printed sentence says how): OpenSidesAreOne: laid · PrintedBothWays: laid · OverhangsTurnOver: laid · WeldedKeepsVolume: laid.
  DERIVED. THE GIVEN ROWS OF THIS SEAT. 4 by the template 'for every input the law returns true; each argument reads behind the call as it read before'; 0 by the template 'total and deterministic' (their statements: YtbgailgclflaeaaGreatDoorTotals.lean).
  GIVEN WITH THE SEED: the statements are not yours to turn. If you find one false, say at which input.
  Laid BY PROGRAM, IN A SANDBOX (cutbox-rows.mjs): the forced cells as the released guide's own fill.sh prints them over the translation d37ae1f3dd3dd5aa… (all of the seat's roots in one cut). By AI agents, Wed Nov 11 2026. No macro, syntax, notation, axiom, sorry.
-/
import Derived.Test.YtbgailgclflaeaaGreatDoorChecked
import GoSem.PinnedTables
import GoSem.Claim
import GoSem.ClaimJoined
import GoSem.ClaimMapViews
import Derived.JoinedTies
import Derived.KernelRfl
namespace Go.Proofs.YtbgailgclflaeaaGreatDoor
/- THE CELL 'sum', in the pinned program and in every row, IS THE sha256 OF THE DUMP (.gsa) THAT YtbgailgclflaeaaGreatDoorProg.lean LOADS. Nothing in Lean hashes anything: it is a label: what it is worth is what the hold of that sum in a sandbox is worth. -/
noncomputable def Tryz.pinned : Pinned := { name := "ytbgailgclflaeaagreatdoor", sum := "d37ae1f3dd3dd5aa1428de00010ac69d56cbef9f18b72d6348d536b421b31392", checked := Tryz.checked }
namespace Rows
def none {H : Type} : Left H := { results := [], args := [] }

/- WHAT THE LISTED PACKAGE-LEVEL VARIABLES READ AS WHEN THE CALL BEGINS. Each datum BY PROGRAM (the guide's laid-datum.mjs) off the statement by which the dump's own 'gosem.cut.vars' lays the variable. In a bare row this is a premise. The card (YtbgailgclflaeaaGreatDoorCards.lean) ties it to the program's text. -/
def laid_unicode_utf8_acceptRanges {H : Type} : DataW H := .agg [.agg [.lit (.int .u8 128), .lit (.int .u8 191)], .agg [.lit (.int .u8 160), .lit (.int .u8 191)], .agg [.lit (.int .u8 128), .lit (.int .u8 159)], .agg [.lit (.int .u8 144), .lit (.int .u8 191)], .agg [.lit (.int .u8 128), .lit (.int .u8 143)], .agg [.lit (.int .u8 0), .lit (.int .u8 0)], .agg [.lit (.int .u8 0), .lit (.int .u8 0)], .agg [.lit (.int .u8 0), .lit (.int .u8 0)], .agg [.lit (.int .u8 0), .lit (.int .u8 0)], .agg [.lit (.int .u8 0), .lit (.int .u8 0)], .agg [.lit (.int .u8 0), .lit (.int .u8 0)], .agg [.lit (.int .u8 0), .lit (.int .u8 0)], .agg [.lit (.int .u8 0), .lit (.int .u8 0)], .agg [.lit (.int .u8 0), .lit (.int .u8 0)], .agg [.lit (.int .u8 0), .lit (.int .u8 0)], .agg [.lit (.int .u8 0), .lit (.int .u8 0)]]
/-- One of Go's own tables, pinned by name: the form's constant. -/
def laid_unicode_utf8_first : DataW Unit := Go.Pinned.utf8First

/-- 'blkeep1.OpenSidesAreOne': WHATEVER THE INPUT: true; the input reads as it did. -/
def openSidesAreOneSpec : ChangeSpec := { name := "openSidesAreOne", fn := fun _ => fun
  | [d] => { results := [.lit (.bool true)], args := [d] }
  | _ => none }
def openSidesAreOneRow : OpenClaim := { program := "ytbgailgclflaeaagreatdoor", sum := "d37ae1f3dd3dd5aa1428de00010ac69d56cbef9f18b72d6348d536b421b31392", func := "beadlayer/blkeep1.OpenSidesAreOne", spec := "openSidesAreOne", inPlace := ["internal/bytealg.IndexByteString", "internal/bytealg.IndexString"], unfollowed := true, recurses := true, named := ["unicode/utf8.first", "unicode/utf8.acceptRanges", "internal/bytealg.MaxLen"], plainKeys := false, apart := false, laid := [("unicode/utf8.acceptRanges", laid_unicode_utf8_acceptRanges), ("unicode/utf8.first", laid_unicode_utf8_first)] }
def OpenSidesAreOneSaid : Prop := openSidesAreOneRow.holds Tryz.pinned (OpenSpec.ofChange openSidesAreOneSpec)

/-- ITS FALSE NEIGHBOUR: 'it returns false'. Refute it at one input. -/
def openSidesAreOneWrong : ChangeSpec := { name := "openSidesAreOne", fn := fun _ => fun
  | [d] => { results := [.lit (.bool false)], args := [d] }
  | _ => none }
def OpenSidesAreOneWrongFalsely : Prop := openSidesAreOneRow.holds Tryz.pinned (OpenSpec.ofChange openSidesAreOneWrong)

/-- 'blkeep1.PrintedBothWays': WHATEVER THE INPUT: true; the input reads as it did. -/
def printedBothWaysSpec : ChangeSpec := { name := "printedBothWays", fn := fun _ => fun
  | [d] => { results := [.lit (.bool true)], args := [d] }
  | _ => none }
def printedBothWaysRow : OpenClaim := { program := "ytbgailgclflaeaagreatdoor", sum := "d37ae1f3dd3dd5aa1428de00010ac69d56cbef9f18b72d6348d536b421b31392", func := "beadlayer/blkeep1.PrintedBothWays", spec := "printedBothWays", inPlace := ["internal/bytealg.IndexByteString", "internal/bytealg.IndexString"], unfollowed := true, recurses := true, named := ["unicode/utf8.first", "unicode/utf8.acceptRanges", "internal/bytealg.MaxLen"], plainKeys := false, apart := false, laid := [("unicode/utf8.acceptRanges", laid_unicode_utf8_acceptRanges), ("unicode/utf8.first", laid_unicode_utf8_first)] }
def PrintedBothWaysSaid : Prop := printedBothWaysRow.holds Tryz.pinned (OpenSpec.ofChange printedBothWaysSpec)

/-- ITS FALSE NEIGHBOUR: 'it returns false'. Refute it at one input. -/
def printedBothWaysWrong : ChangeSpec := { name := "printedBothWays", fn := fun _ => fun
  | [d] => { results := [.lit (.bool false)], args := [d] }
  | _ => none }
def PrintedBothWaysWrongFalsely : Prop := printedBothWaysRow.holds Tryz.pinned (OpenSpec.ofChange printedBothWaysWrong)

/-- 'blkeep1.OverhangsTurnOver': WHATEVER THE INPUT: true; the input reads as it did. -/
def overhangsTurnOverSpec : ChangeSpec := { name := "overhangsTurnOver", fn := fun _ => fun
  | [d] => { results := [.lit (.bool true)], args := [d] }
  | _ => none }
def overhangsTurnOverRow : OpenClaim := { program := "ytbgailgclflaeaagreatdoor", sum := "d37ae1f3dd3dd5aa1428de00010ac69d56cbef9f18b72d6348d536b421b31392", func := "beadlayer/blkeep1.OverhangsTurnOver", spec := "overhangsTurnOver", inPlace := ["internal/bytealg.IndexByteString", "internal/bytealg.IndexString"], unfollowed := true, recurses := true, named := ["unicode/utf8.first", "unicode/utf8.acceptRanges", "internal/bytealg.MaxLen"], plainKeys := false, apart := false, laid := [("unicode/utf8.acceptRanges", laid_unicode_utf8_acceptRanges), ("unicode/utf8.first", laid_unicode_utf8_first)] }
def OverhangsTurnOverSaid : Prop := overhangsTurnOverRow.holds Tryz.pinned (OpenSpec.ofChange overhangsTurnOverSpec)

/-- ITS FALSE NEIGHBOUR: 'it returns false'. Refute it at one input. -/
def overhangsTurnOverWrong : ChangeSpec := { name := "overhangsTurnOver", fn := fun _ => fun
  | [d] => { results := [.lit (.bool false)], args := [d] }
  | _ => none }
def OverhangsTurnOverWrongFalsely : Prop := overhangsTurnOverRow.holds Tryz.pinned (OpenSpec.ofChange overhangsTurnOverWrong)

/-- 'blkeep1.WeldedKeepsVolume': WHATEVER THE INPUT: true; the input reads as it did. -/
def weldedKeepsVolumeSpec : ChangeSpec := { name := "weldedKeepsVolume", fn := fun _ => fun
  | [d] => { results := [.lit (.bool true)], args := [d] }
  | _ => none }
def weldedKeepsVolumeRow : OpenClaim := { program := "ytbgailgclflaeaagreatdoor", sum := "d37ae1f3dd3dd5aa1428de00010ac69d56cbef9f18b72d6348d536b421b31392", func := "beadlayer/blkeep1.WeldedKeepsVolume", spec := "weldedKeepsVolume", inPlace := ["internal/bytealg.IndexByteString", "internal/bytealg.IndexString"], unfollowed := true, recurses := true, named := ["unicode/utf8.first", "unicode/utf8.acceptRanges", "internal/bytealg.MaxLen"], plainKeys := false, apart := false, laid := [("unicode/utf8.acceptRanges", laid_unicode_utf8_acceptRanges), ("unicode/utf8.first", laid_unicode_utf8_first)] }
def WeldedKeepsVolumeSaid : Prop := weldedKeepsVolumeRow.holds Tryz.pinned (OpenSpec.ofChange weldedKeepsVolumeSpec)

/-- ITS FALSE NEIGHBOUR: 'it returns false'. Refute it at one input. -/
def weldedKeepsVolumeWrong : ChangeSpec := { name := "weldedKeepsVolume", fn := fun _ => fun
  | [d] => { results := [.lit (.bool false)], args := [d] }
  | _ => none }
def WeldedKeepsVolumeWrongFalsely : Prop := weldedKeepsVolumeRow.holds Tryz.pinned (OpenSpec.ofChange weldedKeepsVolumeWrong)

/- THE SECOND FORM. 'bulk': how many values and letters a reading holds, each counted each time it is reached (what is shared counts as often as it is met; a slice's spare places count too). A statement '..UptoSaid' is the law's where the arguments, and the package variables that the reading takes, are together of bulk at most 1048576: NARROWER than '..Said'. Prove '..Said' where nothing that the law and all that it calls make is longer than what came in: it says more and counts as full. Else prove '..UptoSaid'. A law counts once. -/
mutual
def uptoBulk {H : Type} : DataW H → Nat
  | .lit (.string bytes) => bytes.length + 1
  | .lit _ => 1
  | .nil => 1
  | .ptr d => uptoBulk d + 1
  | .slice elems spare => uptoBulkAll elems + uptoBulkAll spare + 1
  | .agg parts => uptoBulkAll parts + 1
  | .iface _ d => uptoBulk d + 1
  | .map entries => uptoBulkEntries entries + 1
  | .held _ => 1
def uptoBulkAll {H : Type} : List (DataW H) → Nat
  | [] => 0
  | d :: r => uptoBulk d + uptoBulkAll r
def uptoBulkEntries {H : Type} : List (Lit × DataW H) → Nat
  | [] => 0
  | x :: r => uptoBulkEntry x + uptoBulkEntries r
def uptoBulkEntry {H : Type} : Lit × DataW H → Nat
  | (.string bytes, d) => bytes.length + uptoBulk d + 1
  | (_, d) => uptoBulk d + 1
 end
def uptoSmall : (H : Type) → List (DataW H) → Bool := fun _ ds => decide (uptoBulkAll ds ≤ 1048576)
def OpenSpec.upto (s : _root_.Go.ChangeSpec) : _root_.Go.OpenSpec := { _root_.Go.OpenSpec.ofChange s with cond := some uptoSmall }

/-- 'blkeep1.OpenSidesAreOne', WHERE WHAT IT READS IS OF BULK AT MOST 1048576: true; the input reads as it did. -/
def openSidesAreOneUptoRow : OpenClaim := { program := "ytbgailgclflaeaagreatdoor", sum := "d37ae1f3dd3dd5aa1428de00010ac69d56cbef9f18b72d6348d536b421b31392", func := "beadlayer/blkeep1.OpenSidesAreOne", spec := "openSidesAreOne", inPlace := ["internal/bytealg.IndexByteString", "internal/bytealg.IndexString"], unfollowed := true, recurses := true, named := ["unicode/utf8.first", "unicode/utf8.acceptRanges", "internal/bytealg.MaxLen"], plainKeys := false, apart := false, laid := [("unicode/utf8.acceptRanges", laid_unicode_utf8_acceptRanges), ("unicode/utf8.first", laid_unicode_utf8_first)], narrowed := true }
def OpenSidesAreOneUptoSaid : Prop := openSidesAreOneUptoRow.holds Tryz.pinned (OpenSpec.upto openSidesAreOneSpec)

/-- 'blkeep1.PrintedBothWays', WHERE WHAT IT READS IS OF BULK AT MOST 1048576: true; the input reads as it did. -/
def printedBothWaysUptoRow : OpenClaim := { program := "ytbgailgclflaeaagreatdoor", sum := "d37ae1f3dd3dd5aa1428de00010ac69d56cbef9f18b72d6348d536b421b31392", func := "beadlayer/blkeep1.PrintedBothWays", spec := "printedBothWays", inPlace := ["internal/bytealg.IndexByteString", "internal/bytealg.IndexString"], unfollowed := true, recurses := true, named := ["unicode/utf8.first", "unicode/utf8.acceptRanges", "internal/bytealg.MaxLen"], plainKeys := false, apart := false, laid := [("unicode/utf8.acceptRanges", laid_unicode_utf8_acceptRanges), ("unicode/utf8.first", laid_unicode_utf8_first)], narrowed := true }
def PrintedBothWaysUptoSaid : Prop := printedBothWaysUptoRow.holds Tryz.pinned (OpenSpec.upto printedBothWaysSpec)

/-- 'blkeep1.OverhangsTurnOver', WHERE WHAT IT READS IS OF BULK AT MOST 1048576: true; the input reads as it did. -/
def overhangsTurnOverUptoRow : OpenClaim := { program := "ytbgailgclflaeaagreatdoor", sum := "d37ae1f3dd3dd5aa1428de00010ac69d56cbef9f18b72d6348d536b421b31392", func := "beadlayer/blkeep1.OverhangsTurnOver", spec := "overhangsTurnOver", inPlace := ["internal/bytealg.IndexByteString", "internal/bytealg.IndexString"], unfollowed := true, recurses := true, named := ["unicode/utf8.first", "unicode/utf8.acceptRanges", "internal/bytealg.MaxLen"], plainKeys := false, apart := false, laid := [("unicode/utf8.acceptRanges", laid_unicode_utf8_acceptRanges), ("unicode/utf8.first", laid_unicode_utf8_first)], narrowed := true }
def OverhangsTurnOverUptoSaid : Prop := overhangsTurnOverUptoRow.holds Tryz.pinned (OpenSpec.upto overhangsTurnOverSpec)

/-- 'blkeep1.WeldedKeepsVolume', WHERE WHAT IT READS IS OF BULK AT MOST 1048576: true; the input reads as it did. -/
def weldedKeepsVolumeUptoRow : OpenClaim := { program := "ytbgailgclflaeaagreatdoor", sum := "d37ae1f3dd3dd5aa1428de00010ac69d56cbef9f18b72d6348d536b421b31392", func := "beadlayer/blkeep1.WeldedKeepsVolume", spec := "weldedKeepsVolume", inPlace := ["internal/bytealg.IndexByteString", "internal/bytealg.IndexString"], unfollowed := true, recurses := true, named := ["unicode/utf8.first", "unicode/utf8.acceptRanges", "internal/bytealg.MaxLen"], plainKeys := false, apart := false, laid := [("unicode/utf8.acceptRanges", laid_unicode_utf8_acceptRanges), ("unicode/utf8.first", laid_unicode_utf8_first)], narrowed := true }
def WeldedKeepsVolumeUptoSaid : Prop := weldedKeepsVolumeUptoRow.holds Tryz.pinned (OpenSpec.upto weldedKeepsVolumeSpec)

end Rows
end Go.Proofs.YtbgailgclflaeaaGreatDoor
