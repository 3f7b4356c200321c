/-
  No cell of these rows narrows 'for every input' (looked for: loops, veiled, ifaces, maps, wideKeys, modest, calm, conditions, laid).
  DERIVED. THE GIVEN ROWS OF THIS SEAT. 3 by the template 'for every input the law returns true; each argument reads behind the call as it read before'; 0 by the template 'total and deterministic' (their statements: YtjodjdjfagjiaaaTotals.lean).
  GIVEN WITH THE SEED: the statements are not yours to turn. If you find one false, say at which input.
  Laid BY PROGRAM, IN A SANDBOX (cutbox-rows.mjs): the forced cells as the released guide's own fill.sh prints them over the translation cbac4654dfe5c7ea… (all of the seat's roots in one cut). By AI agents, Wed Nov 11 2026. No macro, syntax, notation, axiom, sorry.
-/
import Derived.Test.YtjodjdjfagjiaaaChecked
import GoSem.Claim
import GoSem.ClaimJoined
import GoSem.ClaimMapViews
import Derived.JoinedTies
import Derived.KernelRfl
namespace Go.Proofs.Ytjodjdjfagjiaaa
/- THE CELL 'sum', in the pinned program and in every row, IS THE sha256 OF THE DUMP (.gsa) THAT YtjodjdjfagjiaaaProg.lean LOADS. Nothing in Lean hashes anything: it is a label: what it is worth is what the hold of that sum in a sandbox is worth. -/
noncomputable def Try.pinned : Pinned := { name := "ytjodjdjfagjiaaa", sum := "cbac4654dfe5c7ea6f93f67748d7791c672b32a3f5fee2decdebca2d37f4ed82", checked := Try.checked }
namespace Rows
def none {H : Type} : Left H := { results := [], args := [] }

/-- 'bllaw1.FacesFound': WHATEVER THE INPUT: true; the input reads as it did. -/
def facesFoundSpec : ChangeSpec := { name := "facesFound", fn := fun _ => fun
  | [d] => { results := [.lit (.bool true)], args := [d] }
  | _ => none }
def facesFoundRow : OpenClaim := { program := "ytjodjdjfagjiaaa", sum := "cbac4654dfe5c7ea6f93f67748d7791c672b32a3f5fee2decdebca2d37f4ed82", func := "beadlayer/bllaw1.FacesFound", spec := "facesFound", unfollowed := true, recurses := true, plainKeys := false, apart := false }
def FacesFoundSaid : Prop := facesFoundRow.holds Try.pinned (OpenSpec.ofChange facesFoundSpec)

/-- ITS FALSE NEIGHBOUR: 'it returns false'. Refute it at one input. -/
def facesFoundWrong : ChangeSpec := { name := "facesFound", fn := fun _ => fun
  | [d] => { results := [.lit (.bool false)], args := [d] }
  | _ => none }
def FacesFoundWrongFalsely : Prop := facesFoundRow.holds Try.pinned (OpenSpec.ofChange facesFoundWrong)

/-- 'bllaw1.MeshesMoved': WHATEVER THE INPUT: true; the input reads as it did. -/
def meshesMovedSpec : ChangeSpec := { name := "meshesMoved", fn := fun _ => fun
  | [d] => { results := [.lit (.bool true)], args := [d] }
  | _ => none }
def meshesMovedRow : OpenClaim := { program := "ytjodjdjfagjiaaa", sum := "cbac4654dfe5c7ea6f93f67748d7791c672b32a3f5fee2decdebca2d37f4ed82", func := "beadlayer/bllaw1.MeshesMoved", spec := "meshesMoved", unfollowed := true, recurses := true, plainKeys := false, apart := false }
def MeshesMovedSaid : Prop := meshesMovedRow.holds Try.pinned (OpenSpec.ofChange meshesMovedSpec)

/-- ITS FALSE NEIGHBOUR: 'it returns false'. Refute it at one input. -/
def meshesMovedWrong : ChangeSpec := { name := "meshesMoved", fn := fun _ => fun
  | [d] => { results := [.lit (.bool false)], args := [d] }
  | _ => none }
def MeshesMovedWrongFalsely : Prop := meshesMovedRow.holds Try.pinned (OpenSpec.ofChange meshesMovedWrong)

/-- 'bllaw1.MeshesJoined': WHATEVER THE INPUT: true; the input reads as it did. -/
def meshesJoinedSpec : ChangeSpec := { name := "meshesJoined", fn := fun _ => fun
  | [d] => { results := [.lit (.bool true)], args := [d] }
  | _ => none }
def meshesJoinedRow : OpenClaim := { program := "ytjodjdjfagjiaaa", sum := "cbac4654dfe5c7ea6f93f67748d7791c672b32a3f5fee2decdebca2d37f4ed82", func := "beadlayer/bllaw1.MeshesJoined", spec := "meshesJoined", unfollowed := true, recurses := true, plainKeys := false, apart := false }
def MeshesJoinedSaid : Prop := meshesJoinedRow.holds Try.pinned (OpenSpec.ofChange meshesJoinedSpec)

/-- ITS FALSE NEIGHBOUR: 'it returns false'. Refute it at one input. -/
def meshesJoinedWrong : ChangeSpec := { name := "meshesJoined", fn := fun _ => fun
  | [d] => { results := [.lit (.bool false)], args := [d] }
  | _ => none }
def MeshesJoinedWrongFalsely : Prop := meshesJoinedRow.holds Try.pinned (OpenSpec.ofChange meshesJoinedWrong)

/- THE SECOND FORM. 'bulk': how many values and letters a reading holds, each counted each time it is reached (what is shared counts as often as it is met; a slice's spare places count too). A statement '..UptoSaid' is the law's where the arguments, and the package variables that the reading takes, are together of bulk at most 1048576: NARROWER than '..Said'. Prove '..Said' where nothing that the law and all that it calls make is longer than what came in: it says more and counts as full. Else prove '..UptoSaid'. A law counts once. -/
mutual
def uptoBulk {H : Type} : DataW H → Nat
  | .lit (.string bytes) => bytes.length + 1
  | .lit _ => 1
  | .nil => 1
  | .ptr d => uptoBulk d + 1
  | .slice elems spare => uptoBulkAll elems + uptoBulkAll spare + 1
  | .agg parts => uptoBulkAll parts + 1
  | .iface _ d => uptoBulk d + 1
  | .map entries => uptoBulkEntries entries + 1
  | .held _ => 1
def uptoBulkAll {H : Type} : List (DataW H) → Nat
  | [] => 0
  | d :: r => uptoBulk d + uptoBulkAll r
def uptoBulkEntries {H : Type} : List (Lit × DataW H) → Nat
  | [] => 0
  | x :: r => uptoBulkEntry x + uptoBulkEntries r
def uptoBulkEntry {H : Type} : Lit × DataW H → Nat
  | (.string bytes, d) => bytes.length + uptoBulk d + 1
  | (_, d) => uptoBulk d + 1
 end
def uptoSmall : (H : Type) → List (DataW H) → Bool := fun _ ds => decide (uptoBulkAll ds ≤ 1048576)
def OpenSpec.upto (s : _root_.Go.ChangeSpec) : _root_.Go.OpenSpec := { _root_.Go.OpenSpec.ofChange s with cond := some uptoSmall }

/-- 'bllaw1.FacesFound', WHERE WHAT IT READS IS OF BULK AT MOST 1048576: true; the input reads as it did. -/
def facesFoundUptoRow : OpenClaim := { program := "ytjodjdjfagjiaaa", sum := "cbac4654dfe5c7ea6f93f67748d7791c672b32a3f5fee2decdebca2d37f4ed82", func := "beadlayer/bllaw1.FacesFound", spec := "facesFound", unfollowed := true, recurses := true, plainKeys := false, apart := false, narrowed := true }
def FacesFoundUptoSaid : Prop := facesFoundUptoRow.holds Try.pinned (OpenSpec.upto facesFoundSpec)

/-- 'bllaw1.MeshesMoved', WHERE WHAT IT READS IS OF BULK AT MOST 1048576: true; the input reads as it did. -/
def meshesMovedUptoRow : OpenClaim := { program := "ytjodjdjfagjiaaa", sum := "cbac4654dfe5c7ea6f93f67748d7791c672b32a3f5fee2decdebca2d37f4ed82", func := "beadlayer/bllaw1.MeshesMoved", spec := "meshesMoved", unfollowed := true, recurses := true, plainKeys := false, apart := false, narrowed := true }
def MeshesMovedUptoSaid : Prop := meshesMovedUptoRow.holds Try.pinned (OpenSpec.upto meshesMovedSpec)

/-- 'bllaw1.MeshesJoined', WHERE WHAT IT READS IS OF BULK AT MOST 1048576: true; the input reads as it did. -/
def meshesJoinedUptoRow : OpenClaim := { program := "ytjodjdjfagjiaaa", sum := "cbac4654dfe5c7ea6f93f67748d7791c672b32a3f5fee2decdebca2d37f4ed82", func := "beadlayer/bllaw1.MeshesJoined", spec := "meshesJoined", unfollowed := true, recurses := true, plainKeys := false, apart := false, narrowed := true }
def MeshesJoinedUptoSaid : Prop := meshesJoinedUptoRow.holds Try.pinned (OpenSpec.upto meshesJoinedSpec)

end Rows
end Go.Proofs.Ytjodjdjfagjiaaa
