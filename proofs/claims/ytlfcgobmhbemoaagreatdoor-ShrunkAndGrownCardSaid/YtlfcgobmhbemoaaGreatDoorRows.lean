/-
  NARROWER THAN 'FOR EVERY INPUT', by the rows' own cells (each row's printed sentence says how): CellsCombined: laid · CombinedAsSets: laid · ShrunkAndGrown: laid.
  DERIVED. THE GIVEN ROWS OF THIS SEAT. 3 by the template 'for every input the law returns true; each argument reads behind the call as it read before'; 0 by the template 'total and deterministic' (their statements: YtlfcgobmhbemoaaGreatDoorTotals.lean).
  GIVEN WITH THE SEED: the statements are not yours to turn. If you find one false, say at which input.
  Laid BY PROGRAM, IN A SANDBOX (cutbox-rows.mjs): the forced cells as the released guide's own fill.sh prints them over the translation ee164e28f8caa508… (all of the seat's roots in one cut). By AI agents, Wed Nov 11 2026. No macro, syntax, notation, axiom, sorry.
-/
import Derived.Test.YtlfcgobmhbemoaaGreatDoorChecked
import GoSem.PinnedTables
import GoSem.Claim
import GoSem.ClaimJoined
import GoSem.ClaimMapViews
import Derived.JoinedTies
import Derived.KernelRfl
namespace Go.Proofs.YtlfcgobmhbemoaaGreatDoor
/- THE CELL 'sum', in the pinned program and in every row, IS THE sha256 OF THE DUMP (.gsa) THAT YtlfcgobmhbemoaaGreatDoorProg.lean LOADS. Nothing in Lean hashes anything: it is a label: what it is worth is what the hold of that sum in a sandbox is worth. -/
noncomputable def Tryz.pinned : Pinned := { name := "ytlfcgobmhbemoaagreatdoor", sum := "ee164e28f8caa508a9f2ad1c710ae3001d5039af1901a480494916fcf66f9c13", checked := Tryz.checked }
namespace Rows
def none {H : Type} : Left H := { results := [], args := [] }

/- WHAT THE LISTED PACKAGE-LEVEL VARIABLES READ AS WHEN THE CALL BEGINS. Each datum BY PROGRAM (the guide's laid-datum.mjs) off the statement by which the dump's own 'gosem.cut.vars' lays the variable. In a bare row this is a premise. The card (YtlfcgobmhbemoaaGreatDoorCards.lean) ties it to the program's text. -/
def laid_unicode_utf8_acceptRanges {H : Type} : DataW H := .agg [.agg [.lit (.int .u8 128), .lit (.int .u8 191)], .agg [.lit (.int .u8 160), .lit (.int .u8 191)], .agg [.lit (.int .u8 128), .lit (.int .u8 159)], .agg [.lit (.int .u8 144), .lit (.int .u8 191)], .agg [.lit (.int .u8 128), .lit (.int .u8 143)], .agg [.lit (.int .u8 0), .lit (.int .u8 0)], .agg [.lit (.int .u8 0), .lit (.int .u8 0)], .agg [.lit (.int .u8 0), .lit (.int .u8 0)], .agg [.lit (.int .u8 0), .lit (.int .u8 0)], .agg [.lit (.int .u8 0), .lit (.int .u8 0)], .agg [.lit (.int .u8 0), .lit (.int .u8 0)], .agg [.lit (.int .u8 0), .lit (.int .u8 0)], .agg [.lit (.int .u8 0), .lit (.int .u8 0)], .agg [.lit (.int .u8 0), .lit (.int .u8 0)], .agg [.lit (.int .u8 0), .lit (.int .u8 0)], .agg [.lit (.int .u8 0), .lit (.int .u8 0)]]
/-- One of Go's own tables, pinned by name: the form's constant. -/
def laid_unicode_utf8_first : DataW Unit := Go.Pinned.utf8First

/-- 'bllaw1.CellsCombined': WHATEVER THE INPUT: true; the input reads as it did. -/
def cellsCombinedSpec : ChangeSpec := { name := "cellsCombined", fn := fun _ => fun
  | [d] => { results := [.lit (.bool true)], args := [d] }
  | _ => none }
def cellsCombinedRow : OpenClaim := { program := "ytlfcgobmhbemoaagreatdoor", sum := "ee164e28f8caa508a9f2ad1c710ae3001d5039af1901a480494916fcf66f9c13", func := "beadlayer/bllaw1.CellsCombined", spec := "cellsCombined", inPlace := ["internal/bytealg.IndexByteString", "internal/bytealg.IndexString", "internal/abi.NoEscape"], unfollowed := true, recurses := true, named := ["unicode/utf8.first", "unicode/utf8.acceptRanges", "internal/bytealg.MaxLen"], plainKeys := false, apart := false, laid := [("unicode/utf8.acceptRanges", laid_unicode_utf8_acceptRanges), ("unicode/utf8.first", laid_unicode_utf8_first)] }
def CellsCombinedSaid : Prop := cellsCombinedRow.holds Tryz.pinned (OpenSpec.ofChange cellsCombinedSpec)

/-- ITS FALSE NEIGHBOUR: 'it returns false'. Refute it at one input. -/
def cellsCombinedWrong : ChangeSpec := { name := "cellsCombined", fn := fun _ => fun
  | [d] => { results := [.lit (.bool false)], args := [d] }
  | _ => none }
def CellsCombinedWrongFalsely : Prop := cellsCombinedRow.holds Tryz.pinned (OpenSpec.ofChange cellsCombinedWrong)

/-- 'blkeep1.CombinedAsSets': WHATEVER THE INPUT: true; the input reads as it did. -/
def combinedAsSetsSpec : ChangeSpec := { name := "combinedAsSets", fn := fun _ => fun
  | [d] => { results := [.lit (.bool true)], args := [d] }
  | _ => none }
def combinedAsSetsRow : OpenClaim := { program := "ytlfcgobmhbemoaagreatdoor", sum := "ee164e28f8caa508a9f2ad1c710ae3001d5039af1901a480494916fcf66f9c13", func := "beadlayer/blkeep1.CombinedAsSets", spec := "combinedAsSets", inPlace := ["internal/bytealg.IndexByteString", "internal/bytealg.IndexString", "internal/abi.NoEscape"], unfollowed := true, recurses := true, named := ["unicode/utf8.first", "unicode/utf8.acceptRanges", "internal/bytealg.MaxLen"], plainKeys := false, apart := false, laid := [("unicode/utf8.acceptRanges", laid_unicode_utf8_acceptRanges), ("unicode/utf8.first", laid_unicode_utf8_first)] }
def CombinedAsSetsSaid : Prop := combinedAsSetsRow.holds Tryz.pinned (OpenSpec.ofChange combinedAsSetsSpec)

/-- ITS FALSE NEIGHBOUR: 'it returns false'. Refute it at one input. -/
def combinedAsSetsWrong : ChangeSpec := { name := "combinedAsSets", fn := fun _ => fun
  | [d] => { results := [.lit (.bool false)], args := [d] }
  | _ => none }
def CombinedAsSetsWrongFalsely : Prop := combinedAsSetsRow.holds Tryz.pinned (OpenSpec.ofChange combinedAsSetsWrong)

/-- 'blkeep1.ShrunkAndGrown': WHATEVER THE INPUT: true; the input reads as it did. -/
def shrunkAndGrownSpec : ChangeSpec := { name := "shrunkAndGrown", fn := fun _ => fun
  | [d] => { results := [.lit (.bool true)], args := [d] }
  | _ => none }
def shrunkAndGrownRow : OpenClaim := { program := "ytlfcgobmhbemoaagreatdoor", sum := "ee164e28f8caa508a9f2ad1c710ae3001d5039af1901a480494916fcf66f9c13", func := "beadlayer/blkeep1.ShrunkAndGrown", spec := "shrunkAndGrown", inPlace := ["internal/bytealg.IndexByteString", "internal/bytealg.IndexString", "internal/abi.NoEscape"], unfollowed := true, recurses := true, named := ["unicode/utf8.first", "unicode/utf8.acceptRanges", "internal/bytealg.MaxLen"], plainKeys := false, apart := false, laid := [("unicode/utf8.acceptRanges", laid_unicode_utf8_acceptRanges), ("unicode/utf8.first", laid_unicode_utf8_first)] }
def ShrunkAndGrownSaid : Prop := shrunkAndGrownRow.holds Tryz.pinned (OpenSpec.ofChange shrunkAndGrownSpec)

/-- ITS FALSE NEIGHBOUR: 'it returns false'. Refute it at one input. -/
def shrunkAndGrownWrong : ChangeSpec := { name := "shrunkAndGrown", fn := fun _ => fun
  | [d] => { results := [.lit (.bool false)], args := [d] }
  | _ => none }
def ShrunkAndGrownWrongFalsely : Prop := shrunkAndGrownRow.holds Tryz.pinned (OpenSpec.ofChange shrunkAndGrownWrong)

/- THE SECOND FORM. 'bulk': how many values and letters a reading holds, each counted each time it is reached (what is shared counts as often as it is met; a slice's spare places count too). A statement '..UptoSaid' is the law's where the arguments, and the package variables that the reading takes, are together of bulk at most 1048576: NARROWER than '..Said'. Prove '..Said' where nothing that the law and all that it calls make is longer than what came in: it says more and counts as full. Else prove '..UptoSaid'. A law counts once. -/
mutual
def uptoBulk {H : Type} : DataW H → Nat
  | .lit (.string bytes) => bytes.length + 1
  | .lit _ => 1
  | .nil => 1
  | .ptr d => uptoBulk d + 1
  | .slice elems spare => uptoBulkAll elems + uptoBulkAll spare + 1
  | .agg parts => uptoBulkAll parts + 1
  | .iface _ d => uptoBulk d + 1
  | .map entries => uptoBulkEntries entries + 1
  | .held _ => 1
def uptoBulkAll {H : Type} : List (DataW H) → Nat
  | [] => 0
  | d :: r => uptoBulk d + uptoBulkAll r
def uptoBulkEntries {H : Type} : List (Lit × DataW H) → Nat
  | [] => 0
  | x :: r => uptoBulkEntry x + uptoBulkEntries r
def uptoBulkEntry {H : Type} : Lit × DataW H → Nat
  | (.string bytes, d) => bytes.length + uptoBulk d + 1
  | (_, d) => uptoBulk d + 1
 end
def uptoSmall : (H : Type) → List (DataW H) → Bool := fun _ ds => decide (uptoBulkAll ds ≤ 1048576)
def OpenSpec.upto (s : _root_.Go.ChangeSpec) : _root_.Go.OpenSpec := { _root_.Go.OpenSpec.ofChange s with cond := some uptoSmall }

/-- 'bllaw1.CellsCombined', WHERE WHAT IT READS IS OF BULK AT MOST 1048576: true; the input reads as it did. -/
def cellsCombinedUptoRow : OpenClaim := { program := "ytlfcgobmhbemoaagreatdoor", sum := "ee164e28f8caa508a9f2ad1c710ae3001d5039af1901a480494916fcf66f9c13", func := "beadlayer/bllaw1.CellsCombined", spec := "cellsCombined", inPlace := ["internal/bytealg.IndexByteString", "internal/bytealg.IndexString", "internal/abi.NoEscape"], unfollowed := true, recurses := true, named := ["unicode/utf8.first", "unicode/utf8.acceptRanges", "internal/bytealg.MaxLen"], plainKeys := false, apart := false, laid := [("unicode/utf8.acceptRanges", laid_unicode_utf8_acceptRanges), ("unicode/utf8.first", laid_unicode_utf8_first)], narrowed := true }
def CellsCombinedUptoSaid : Prop := cellsCombinedUptoRow.holds Tryz.pinned (OpenSpec.upto cellsCombinedSpec)

/-- 'blkeep1.CombinedAsSets', WHERE WHAT IT READS IS OF BULK AT MOST 1048576: true; the input reads as it did. -/
def combinedAsSetsUptoRow : OpenClaim := { program := "ytlfcgobmhbemoaagreatdoor", sum := "ee164e28f8caa508a9f2ad1c710ae3001d5039af1901a480494916fcf66f9c13", func := "beadlayer/blkeep1.CombinedAsSets", spec := "combinedAsSets", inPlace := ["internal/bytealg.IndexByteString", "internal/bytealg.IndexString", "internal/abi.NoEscape"], unfollowed := true, recurses := true, named := ["unicode/utf8.first", "unicode/utf8.acceptRanges", "internal/bytealg.MaxLen"], plainKeys := false, apart := false, laid := [("unicode/utf8.acceptRanges", laid_unicode_utf8_acceptRanges), ("unicode/utf8.first", laid_unicode_utf8_first)], narrowed := true }
def CombinedAsSetsUptoSaid : Prop := combinedAsSetsUptoRow.holds Tryz.pinned (OpenSpec.upto combinedAsSetsSpec)

/-- 'blkeep1.ShrunkAndGrown', WHERE WHAT IT READS IS OF BULK AT MOST 1048576: true; the input reads as it did. -/
def shrunkAndGrownUptoRow : OpenClaim := { program := "ytlfcgobmhbemoaagreatdoor", sum := "ee164e28f8caa508a9f2ad1c710ae3001d5039af1901a480494916fcf66f9c13", func := "beadlayer/blkeep1.ShrunkAndGrown", spec := "shrunkAndGrown", inPlace := ["internal/bytealg.IndexByteString", "internal/bytealg.IndexString", "internal/abi.NoEscape"], unfollowed := true, recurses := true, named := ["unicode/utf8.first", "unicode/utf8.acceptRanges", "internal/bytealg.MaxLen"], plainKeys := false, apart := false, laid := [("unicode/utf8.acceptRanges", laid_unicode_utf8_acceptRanges), ("unicode/utf8.first", laid_unicode_utf8_first)], narrowed := true }
def ShrunkAndGrownUptoSaid : Prop := shrunkAndGrownUptoRow.holds Tryz.pinned (OpenSpec.upto shrunkAndGrownSpec)

end Rows
end Go.Proofs.YtlfcgobmhbemoaaGreatDoor
