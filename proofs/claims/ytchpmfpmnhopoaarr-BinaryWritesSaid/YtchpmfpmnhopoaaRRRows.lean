/-
  No cell of these rows narrows 'for every input' (looked for: loops, veiled, ifaces, maps, wideKeys, modest, calm, conditions, laid).
  DERIVED. THE GIVEN ROWS OF THIS SEAT. 2 by the template 'for every input the law returns true; each argument reads behind the call as it read before'; 0 by the template 'total and deterministic' (their statements: YtchpmfpmnhopoaaRRTotals.lean).
  GIVEN WITH THE SEED: the statements are not yours to turn. If you find one false, say at which input.
  Laid BY PROGRAM, IN A SANDBOX (cutbox-rows.mjs): the forced cells as the released guide's own fill.sh prints them over the translation 74b38a94aa618d5d… (all of the seat's roots in one cut). By AI agents, Wed Nov 11 2026. No macro, syntax, notation, axiom, sorry.
-/
import Derived.Test.YtchpmfpmnhopoaaRRChecked
import GoSem.Claim
import GoSem.ClaimJoined
import GoSem.ClaimMapViews
import Derived.JoinedTies
import Derived.KernelRfl
namespace Go.Proofs.YtchpmfpmnhopoaaRR
/- THE CELL 'sum', in the pinned program and in every row, IS THE sha256 OF THE DUMP (.gsa) THAT YtchpmfpmnhopoaaRRProg.lean LOADS. Nothing in Lean hashes anything: it is a label: what it is worth is what the hold of that sum in a sandbox is worth. -/
noncomputable def Try.pinned : Pinned := { name := "ytchpmfpmnhopoaarr", sum := "74b38a94aa618d5d17f91d1dc024234f087742deac2abbff056a10d2b5454cb5", checked := Try.checked }
namespace Rows
def none {H : Type} : Left H := { results := [], args := [] }

/-- 'cloakroomlaw16.BinaryPackets': WHATEVER THE INPUT: true; the input reads as it did. -/
def binaryPacketsSpec : ChangeSpec := { name := "binaryPackets", fn := fun _ => fun
  | [d1, d2, d3] => { results := [.lit (.bool true)], args := [d1, d2, d3] }
  | _ => none }
def binaryPacketsRow : OpenClaim := { program := "ytchpmfpmnhopoaarr", sum := "74b38a94aa618d5d17f91d1dc024234f087742deac2abbff056a10d2b5454cb5", func := "cloakroom/cloakroomlaw16.BinaryPackets", spec := "binaryPackets", apart := false }
def BinaryPacketsSaid : Prop := binaryPacketsRow.holds Try.pinned (OpenSpec.ofChange binaryPacketsSpec)

/-- ITS FALSE NEIGHBOUR: 'it returns false'. Refute it at one input. -/
def binaryPacketsWrong : ChangeSpec := { name := "binaryPackets", fn := fun _ => fun
  | [d1, d2, d3] => { results := [.lit (.bool false)], args := [d1, d2, d3] }
  | _ => none }
def BinaryPacketsWrongFalsely : Prop := binaryPacketsRow.holds Try.pinned (OpenSpec.ofChange binaryPacketsWrong)

/-- 'cloakroomlaw16.BinaryWrites': WHATEVER THE INPUT: true; the input reads as it did. -/
def binaryWritesSpec : ChangeSpec := { name := "binaryWrites", fn := fun _ => fun
  | [d] => { results := [.lit (.bool true)], args := [d] }
  | _ => none }
def binaryWritesRow : OpenClaim := { program := "ytchpmfpmnhopoaarr", sum := "74b38a94aa618d5d17f91d1dc024234f087742deac2abbff056a10d2b5454cb5", func := "cloakroom/cloakroomlaw16.BinaryWrites", spec := "binaryWrites", apart := false }
def BinaryWritesSaid : Prop := binaryWritesRow.holds Try.pinned (OpenSpec.ofChange binaryWritesSpec)

/-- ITS FALSE NEIGHBOUR: 'it returns false'. Refute it at one input. -/
def binaryWritesWrong : ChangeSpec := { name := "binaryWrites", fn := fun _ => fun
  | [d] => { results := [.lit (.bool false)], args := [d] }
  | _ => none }
def BinaryWritesWrongFalsely : Prop := binaryWritesRow.holds Try.pinned (OpenSpec.ofChange binaryWritesWrong)

/- THE SECOND FORM. 'bulk': how many values and letters a reading holds, each counted each time it is reached (what is shared counts as often as it is met; a slice's spare places count too). A statement '..UptoSaid' is the law's where the arguments, and the package variables that the reading takes, are together of bulk at most 1048576: NARROWER than '..Said'. Prove '..Said' where nothing that the law and all that it calls make is longer than what came in: it says more and counts as full. Else prove '..UptoSaid'. A law counts once. -/
mutual
def uptoBulk {H : Type} : DataW H → Nat
  | .lit (.string bytes) => bytes.length + 1
  | .lit _ => 1
  | .nil => 1
  | .ptr d => uptoBulk d + 1
  | .slice elems spare => uptoBulkAll elems + uptoBulkAll spare + 1
  | .agg parts => uptoBulkAll parts + 1
  | .iface _ d => uptoBulk d + 1
  | .map entries => uptoBulkEntries entries + 1
  | .held _ => 1
def uptoBulkAll {H : Type} : List (DataW H) → Nat
  | [] => 0
  | d :: r => uptoBulk d + uptoBulkAll r
def uptoBulkEntries {H : Type} : List (Lit × DataW H) → Nat
  | [] => 0
  | x :: r => uptoBulkEntry x + uptoBulkEntries r
def uptoBulkEntry {H : Type} : Lit × DataW H → Nat
  | (.string bytes, d) => bytes.length + uptoBulk d + 1
  | (_, d) => uptoBulk d + 1
 end
def uptoSmall : (H : Type) → List (DataW H) → Bool := fun _ ds => decide (uptoBulkAll ds ≤ 1048576)
def OpenSpec.upto (s : _root_.Go.ChangeSpec) : _root_.Go.OpenSpec := { _root_.Go.OpenSpec.ofChange s with cond := some uptoSmall }

/-- 'cloakroomlaw16.BinaryPackets', WHERE WHAT IT READS IS OF BULK AT MOST 1048576: true; the input reads as it did. -/
def binaryPacketsUptoRow : OpenClaim := { program := "ytchpmfpmnhopoaarr", sum := "74b38a94aa618d5d17f91d1dc024234f087742deac2abbff056a10d2b5454cb5", func := "cloakroom/cloakroomlaw16.BinaryPackets", spec := "binaryPackets", apart := false, narrowed := true }
def BinaryPacketsUptoSaid : Prop := binaryPacketsUptoRow.holds Try.pinned (OpenSpec.upto binaryPacketsSpec)

/-- 'cloakroomlaw16.BinaryWrites', WHERE WHAT IT READS IS OF BULK AT MOST 1048576: true; the input reads as it did. -/
def binaryWritesUptoRow : OpenClaim := { program := "ytchpmfpmnhopoaarr", sum := "74b38a94aa618d5d17f91d1dc024234f087742deac2abbff056a10d2b5454cb5", func := "cloakroom/cloakroomlaw16.BinaryWrites", spec := "binaryWrites", apart := false, narrowed := true }
def BinaryWritesUptoSaid : Prop := binaryWritesUptoRow.holds Try.pinned (OpenSpec.upto binaryWritesSpec)

end Rows
end Go.Proofs.YtchpmfpmnhopoaaRR
