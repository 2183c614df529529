/-
  No cell of these rows narrows 'for every input' (looked for: loops, veiled, ifaces, maps, wideKeys, modest, calm, conditions, laid).
  DERIVED. THE GIVEN ROWS OF THIS SEAT. 5 by the template 'for every input the law returns true; each argument reads behind the call as it read before'; 0 by the template 'total and deterministic' (their statements: YtphenbpognaddaaTotals.lean).
  GIVEN WITH THE SEED: the statements are not yours to turn. If you find one false, say at which input.
  Laid BY PROGRAM, IN A SANDBOX (cutbox-rows.mjs): the forced cells as the released guide's own fill.sh prints them over the translation 92982cc521f44873… (all of the seat's roots in one cut). By AI agents, Wed Nov 11 2026. No macro, syntax, notation, axiom, sorry.
-/
import Derived.Test.YtphenbpognaddaaChecked
import GoSem.Claim
import GoSem.ClaimJoined
import GoSem.ClaimMapViews
import Derived.JoinedTies
import Derived.KernelRfl
namespace Go.Proofs.Ytphenbpognaddaa
/- THE CELL 'sum', in the pinned program and in every row, IS THE sha256 OF THE DUMP (.gsa) THAT YtphenbpognaddaaProg.lean LOADS. Nothing in Lean hashes anything: it is a label: what it is worth is what the hold of that sum in a sandbox is worth. -/
noncomputable def Try.pinned : Pinned := { name := "ytphenbpognaddaa", sum := "92982cc521f448737a9f3471cec5e65c1960878f4c26bed897d05c649d8049c7", checked := Try.checked }
namespace Rows
def none {H : Type} : Left H := { results := [], args := [] }

/-- 'cloakroomlaw03.BagPieces': WHATEVER THE INPUT: true; the input reads as it did. -/
def bagPiecesSpec : ChangeSpec := { name := "bagPieces", fn := fun _ => fun
  | [d1, d2, d3] => { results := [.lit (.bool true)], args := [d1, d2, d3] }
  | _ => none }
def bagPiecesRow : OpenClaim := { program := "ytphenbpognaddaa", sum := "92982cc521f448737a9f3471cec5e65c1960878f4c26bed897d05c649d8049c7", func := "cloakroom/cloakroomlaw03.BagPieces", spec := "bagPieces", apart := false }
def BagPiecesSaid : Prop := bagPiecesRow.holds Try.pinned (OpenSpec.ofChange bagPiecesSpec)

/-- ITS FALSE NEIGHBOUR: 'it returns false'. Refute it at one input. -/
def bagPiecesWrong : ChangeSpec := { name := "bagPieces", fn := fun _ => fun
  | [d1, d2, d3] => { results := [.lit (.bool false)], args := [d1, d2, d3] }
  | _ => none }
def BagPiecesWrongFalsely : Prop := bagPiecesRow.holds Try.pinned (OpenSpec.ofChange bagPiecesWrong)

/-- 'cloakroomlaw03.BagSteps': WHATEVER THE INPUT: true; the input reads as it did. -/
def bagStepsSpec : ChangeSpec := { name := "bagSteps", fn := fun _ => fun
  | [d1, d2, d3, d4] => { results := [.lit (.bool true)], args := [d1, d2, d3, d4] }
  | _ => none }
def bagStepsRow : OpenClaim := { program := "ytphenbpognaddaa", sum := "92982cc521f448737a9f3471cec5e65c1960878f4c26bed897d05c649d8049c7", func := "cloakroom/cloakroomlaw03.BagSteps", spec := "bagSteps", apart := false }
def BagStepsSaid : Prop := bagStepsRow.holds Try.pinned (OpenSpec.ofChange bagStepsSpec)

/-- ITS FALSE NEIGHBOUR: 'it returns false'. Refute it at one input. -/
def bagStepsWrong : ChangeSpec := { name := "bagSteps", fn := fun _ => fun
  | [d1, d2, d3, d4] => { results := [.lit (.bool false)], args := [d1, d2, d3, d4] }
  | _ => none }
def BagStepsWrongFalsely : Prop := bagStepsRow.holds Try.pinned (OpenSpec.ofChange bagStepsWrong)

/-- 'cloakroomlaw03.BagKeeps': WHATEVER THE INPUT: true; the input reads as it did. -/
def bagKeepsSpec : ChangeSpec := { name := "bagKeeps", fn := fun _ => fun
  | [d1, d2, d3, d4] => { results := [.lit (.bool true)], args := [d1, d2, d3, d4] }
  | _ => none }
def bagKeepsRow : OpenClaim := { program := "ytphenbpognaddaa", sum := "92982cc521f448737a9f3471cec5e65c1960878f4c26bed897d05c649d8049c7", func := "cloakroom/cloakroomlaw03.BagKeeps", spec := "bagKeeps", apart := false }
def BagKeepsSaid : Prop := bagKeepsRow.holds Try.pinned (OpenSpec.ofChange bagKeepsSpec)

/-- ITS FALSE NEIGHBOUR: 'it returns false'. Refute it at one input. -/
def bagKeepsWrong : ChangeSpec := { name := "bagKeeps", fn := fun _ => fun
  | [d1, d2, d3, d4] => { results := [.lit (.bool false)], args := [d1, d2, d3, d4] }
  | _ => none }
def BagKeepsWrongFalsely : Prop := bagKeepsRow.holds Try.pinned (OpenSpec.ofChange bagKeepsWrong)

/-- 'cloakroomlaw03.BagNames': WHATEVER THE INPUT: true; the input reads as it did. -/
def bagNamesSpec : ChangeSpec := { name := "bagNames", fn := fun _ => fun
  | [] => { results := [.lit (.bool true)], args := [] }
  | _ => none }
def bagNamesRow : OpenClaim := { program := "ytphenbpognaddaa", sum := "92982cc521f448737a9f3471cec5e65c1960878f4c26bed897d05c649d8049c7", func := "cloakroom/cloakroomlaw03.BagNames", spec := "bagNames", apart := false }
def BagNamesSaid : Prop := bagNamesRow.holds Try.pinned (OpenSpec.ofChange bagNamesSpec)

/-- ITS FALSE NEIGHBOUR: 'it returns false'. Refute it at one input. -/
def bagNamesWrong : ChangeSpec := { name := "bagNames", fn := fun _ => fun
  | [] => { results := [.lit (.bool false)], args := [] }
  | _ => none }
def BagNamesWrongFalsely : Prop := bagNamesRow.holds Try.pinned (OpenSpec.ofChange bagNamesWrong)

/-- 'cloakroomlaw03.BagWhole': WHATEVER THE INPUT: true; the input reads as it did. -/
def bagWholeSpec : ChangeSpec := { name := "bagWhole", fn := fun _ => fun
  | [d1, d2] => { results := [.lit (.bool true)], args := [d1, d2] }
  | _ => none }
def bagWholeRow : OpenClaim := { program := "ytphenbpognaddaa", sum := "92982cc521f448737a9f3471cec5e65c1960878f4c26bed897d05c649d8049c7", func := "cloakroom/cloakroomlaw03.BagWhole", spec := "bagWhole", apart := false }
def BagWholeSaid : Prop := bagWholeRow.holds Try.pinned (OpenSpec.ofChange bagWholeSpec)

/-- ITS FALSE NEIGHBOUR: 'it returns false'. Refute it at one input. -/
def bagWholeWrong : ChangeSpec := { name := "bagWhole", fn := fun _ => fun
  | [d1, d2] => { results := [.lit (.bool false)], args := [d1, d2] }
  | _ => none }
def BagWholeWrongFalsely : Prop := bagWholeRow.holds Try.pinned (OpenSpec.ofChange bagWholeWrong)

/- THE SECOND FORM. 'bulk': how many values and letters a reading holds, each counted each time it is reached (what is shared counts as often as it is met; a slice's spare places count too). A statement '..UptoSaid' is the law's where the arguments, and the package variables that the reading takes, are together of bulk at most 1048576: NARROWER than '..Said'. Prove '..Said' where nothing that the law and all that it calls make is longer than what came in: it says more and counts as full. Else prove '..UptoSaid'. A law counts once. -/
mutual
def uptoBulk {H : Type} : DataW H → Nat
  | .lit (.string bytes) => bytes.length + 1
  | .lit _ => 1
  | .nil => 1
  | .ptr d => uptoBulk d + 1
  | .slice elems spare => uptoBulkAll elems + uptoBulkAll spare + 1
  | .agg parts => uptoBulkAll parts + 1
  | .iface _ d => uptoBulk d + 1
  | .map entries => uptoBulkEntries entries + 1
  | .held _ => 1
def uptoBulkAll {H : Type} : List (DataW H) → Nat
  | [] => 0
  | d :: r => uptoBulk d + uptoBulkAll r
def uptoBulkEntries {H : Type} : List (Lit × DataW H) → Nat
  | [] => 0
  | x :: r => uptoBulkEntry x + uptoBulkEntries r
def uptoBulkEntry {H : Type} : Lit × DataW H → Nat
  | (.string bytes, d) => bytes.length + uptoBulk d + 1
  | (_, d) => uptoBulk d + 1
 end
def uptoSmall : (H : Type) → List (DataW H) → Bool := fun _ ds => decide (uptoBulkAll ds ≤ 1048576)
def OpenSpec.upto (s : _root_.Go.ChangeSpec) : _root_.Go.OpenSpec := { _root_.Go.OpenSpec.ofChange s with cond := some uptoSmall }

/-- 'cloakroomlaw03.BagPieces', WHERE WHAT IT READS IS OF BULK AT MOST 1048576: true; the input reads as it did. -/
def bagPiecesUptoRow : OpenClaim := { program := "ytphenbpognaddaa", sum := "92982cc521f448737a9f3471cec5e65c1960878f4c26bed897d05c649d8049c7", func := "cloakroom/cloakroomlaw03.BagPieces", spec := "bagPieces", apart := false, narrowed := true }
def BagPiecesUptoSaid : Prop := bagPiecesUptoRow.holds Try.pinned (OpenSpec.upto bagPiecesSpec)

/-- 'cloakroomlaw03.BagSteps', WHERE WHAT IT READS IS OF BULK AT MOST 1048576: true; the input reads as it did. -/
def bagStepsUptoRow : OpenClaim := { program := "ytphenbpognaddaa", sum := "92982cc521f448737a9f3471cec5e65c1960878f4c26bed897d05c649d8049c7", func := "cloakroom/cloakroomlaw03.BagSteps", spec := "bagSteps", apart := false, narrowed := true }
def BagStepsUptoSaid : Prop := bagStepsUptoRow.holds Try.pinned (OpenSpec.upto bagStepsSpec)

/-- 'cloakroomlaw03.BagKeeps', WHERE WHAT IT READS IS OF BULK AT MOST 1048576: true; the input reads as it did. -/
def bagKeepsUptoRow : OpenClaim := { program := "ytphenbpognaddaa", sum := "92982cc521f448737a9f3471cec5e65c1960878f4c26bed897d05c649d8049c7", func := "cloakroom/cloakroomlaw03.BagKeeps", spec := "bagKeeps", apart := false, narrowed := true }
def BagKeepsUptoSaid : Prop := bagKeepsUptoRow.holds Try.pinned (OpenSpec.upto bagKeepsSpec)

/-- 'cloakroomlaw03.BagNames', WHERE WHAT IT READS IS OF BULK AT MOST 1048576: true; the input reads as it did. -/
def bagNamesUptoRow : OpenClaim := { program := "ytphenbpognaddaa", sum := "92982cc521f448737a9f3471cec5e65c1960878f4c26bed897d05c649d8049c7", func := "cloakroom/cloakroomlaw03.BagNames", spec := "bagNames", apart := false, narrowed := true }
def BagNamesUptoSaid : Prop := bagNamesUptoRow.holds Try.pinned (OpenSpec.upto bagNamesSpec)

/-- 'cloakroomlaw03.BagWhole', WHERE WHAT IT READS IS OF BULK AT MOST 1048576: true; the input reads as it did. -/
def bagWholeUptoRow : OpenClaim := { program := "ytphenbpognaddaa", sum := "92982cc521f448737a9f3471cec5e65c1960878f4c26bed897d05c649d8049c7", func := "cloakroom/cloakroomlaw03.BagWhole", spec := "bagWhole", apart := false, narrowed := true }
def BagWholeUptoSaid : Prop := bagWholeUptoRow.holds Try.pinned (OpenSpec.upto bagWholeSpec)

end Rows
end Go.Proofs.Ytphenbpognaddaa
