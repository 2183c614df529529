/-
  No cell of these rows narrows 'for every input' (looked for: loops, veiled, ifaces, maps, wideKeys, modest, calm, conditions, laid).
  DERIVED. THE GIVEN ROWS OF THIS SEAT. 9 by the template 'for every input the law returns true; each argument reads behind the call as it read before'; 0 by the template 'total and deterministic' (their statements: YtakmlfbejbelaaaTotals.lean).
  GIVEN WITH THE SEED: the statements are not yours to turn. If you find one false, say at which input.
  Laid BY PROGRAM, IN A SANDBOX (cutbox-rows.mjs): the forced cells as the released guide's own fill.sh prints them over the translation 47d4e47689b12740… (all of the seat's roots in one cut). By AI agents, Wed Nov 11 2026. No macro, syntax, notation, axiom, sorry.
-/
import Derived.Test.YtakmlfbejbelaaaChecked
import GoSem.Claim
import GoSem.ClaimJoined
import GoSem.ClaimMapViews
import Derived.JoinedTies
import Derived.KernelRfl
namespace Go.Proofs.Ytakmlfbejbelaaa
/- THE CELL 'sum', in the pinned program and in every row, IS THE sha256 OF THE DUMP (.gsa) THAT YtakmlfbejbelaaaProg.lean LOADS. Nothing in Lean hashes anything: it is a label: what it is worth is what the hold of that sum in a sandbox is worth. -/
noncomputable def Try.pinned : Pinned := { name := "ytakmlfbejbelaaa", sum := "47d4e47689b1274065a196f3ae61be99cdb32fb5869280af60f804db82f00271", checked := Try.checked }
namespace Rows
def none {H : Type} : Left H := { results := [], args := [] }

/-- 'cloakroomlaw01.CodeShards': WHATEVER THE INPUT: true; the input reads as it did. -/
def codeShardsSpec : ChangeSpec := { name := "codeShards", fn := fun _ => fun
  | [d1, d2, d3, d4] => { results := [.lit (.bool true)], args := [d1, d2, d3, d4] }
  | _ => none }
def codeShardsRow : OpenClaim := { program := "ytakmlfbejbelaaa", sum := "47d4e47689b1274065a196f3ae61be99cdb32fb5869280af60f804db82f00271", func := "cloakroom/cloakroomlaw01.CodeShards", spec := "codeShards", apart := false }
def CodeShardsSaid : Prop := codeShardsRow.holds Try.pinned (OpenSpec.ofChange codeShardsSpec)

/-- ITS FALSE NEIGHBOUR: 'it returns false'. Refute it at one input. -/
def codeShardsWrong : ChangeSpec := { name := "codeShards", fn := fun _ => fun
  | [d1, d2, d3, d4] => { results := [.lit (.bool false)], args := [d1, d2, d3, d4] }
  | _ => none }
def CodeShardsWrongFalsely : Prop := codeShardsRow.holds Try.pinned (OpenSpec.ofChange codeShardsWrong)

/-- 'cloakroomlaw01.CodeNumbers': WHATEVER THE INPUT: true; the input reads as it did. -/
def codeNumbersSpec : ChangeSpec := { name := "codeNumbers", fn := fun _ => fun
  | [d1, d2, d3] => { results := [.lit (.bool true)], args := [d1, d2, d3] }
  | _ => none }
def codeNumbersRow : OpenClaim := { program := "ytakmlfbejbelaaa", sum := "47d4e47689b1274065a196f3ae61be99cdb32fb5869280af60f804db82f00271", func := "cloakroom/cloakroomlaw01.CodeNumbers", spec := "codeNumbers", apart := false }
def CodeNumbersSaid : Prop := codeNumbersRow.holds Try.pinned (OpenSpec.ofChange codeNumbersSpec)

/-- ITS FALSE NEIGHBOUR: 'it returns false'. Refute it at one input. -/
def codeNumbersWrong : ChangeSpec := { name := "codeNumbers", fn := fun _ => fun
  | [d1, d2, d3] => { results := [.lit (.bool false)], args := [d1, d2, d3] }
  | _ => none }
def CodeNumbersWrongFalsely : Prop := codeNumbersRow.holds Try.pinned (OpenSpec.ofChange codeNumbersWrong)

/-- 'cloakroomlaw01.CodeCommands': WHATEVER THE INPUT: true; the input reads as it did. -/
def codeCommandsSpec : ChangeSpec := { name := "codeCommands", fn := fun _ => fun
  | [d1, d2] => { results := [.lit (.bool true)], args := [d1, d2] }
  | _ => none }
def codeCommandsRow : OpenClaim := { program := "ytakmlfbejbelaaa", sum := "47d4e47689b1274065a196f3ae61be99cdb32fb5869280af60f804db82f00271", func := "cloakroom/cloakroomlaw01.CodeCommands", spec := "codeCommands", apart := false }
def CodeCommandsSaid : Prop := codeCommandsRow.holds Try.pinned (OpenSpec.ofChange codeCommandsSpec)

/-- ITS FALSE NEIGHBOUR: 'it returns false'. Refute it at one input. -/
def codeCommandsWrong : ChangeSpec := { name := "codeCommands", fn := fun _ => fun
  | [d1, d2] => { results := [.lit (.bool false)], args := [d1, d2] }
  | _ => none }
def CodeCommandsWrongFalsely : Prop := codeCommandsRow.holds Try.pinned (OpenSpec.ofChange codeCommandsWrong)

/-- 'cloakroomlaw01.CodeChanges': WHATEVER THE INPUT: true; the input reads as it did. -/
def codeChangesSpec : ChangeSpec := { name := "codeChanges", fn := fun _ => fun
  | [d1, d2] => { results := [.lit (.bool true)], args := [d1, d2] }
  | _ => none }
def codeChangesRow : OpenClaim := { program := "ytakmlfbejbelaaa", sum := "47d4e47689b1274065a196f3ae61be99cdb32fb5869280af60f804db82f00271", func := "cloakroom/cloakroomlaw01.CodeChanges", spec := "codeChanges", apart := false }
def CodeChangesSaid : Prop := codeChangesRow.holds Try.pinned (OpenSpec.ofChange codeChangesSpec)

/-- ITS FALSE NEIGHBOUR: 'it returns false'. Refute it at one input. -/
def codeChangesWrong : ChangeSpec := { name := "codeChanges", fn := fun _ => fun
  | [d1, d2] => { results := [.lit (.bool false)], args := [d1, d2] }
  | _ => none }
def CodeChangesWrongFalsely : Prop := codeChangesRow.holds Try.pinned (OpenSpec.ofChange codeChangesWrong)

/-- 'cloakroomlaw01.CodeRecord': WHATEVER THE INPUT: true; the input reads as it did. -/
def codeRecordSpec : ChangeSpec := { name := "codeRecord", fn := fun _ => fun
  | [d1, d2] => { results := [.lit (.bool true)], args := [d1, d2] }
  | _ => none }
def codeRecordRow : OpenClaim := { program := "ytakmlfbejbelaaa", sum := "47d4e47689b1274065a196f3ae61be99cdb32fb5869280af60f804db82f00271", func := "cloakroom/cloakroomlaw01.CodeRecord", spec := "codeRecord", apart := false }
def CodeRecordSaid : Prop := codeRecordRow.holds Try.pinned (OpenSpec.ofChange codeRecordSpec)

/-- ITS FALSE NEIGHBOUR: 'it returns false'. Refute it at one input. -/
def codeRecordWrong : ChangeSpec := { name := "codeRecord", fn := fun _ => fun
  | [d1, d2] => { results := [.lit (.bool false)], args := [d1, d2] }
  | _ => none }
def CodeRecordWrongFalsely : Prop := codeRecordRow.holds Try.pinned (OpenSpec.ofChange codeRecordWrong)

/-- 'cloakroomlaw01.CodeBack': WHATEVER THE INPUT: true; the input reads as it did. -/
def codeBackSpec : ChangeSpec := { name := "codeBack", fn := fun _ => fun
  | [d1, d2, d3] => { results := [.lit (.bool true)], args := [d1, d2, d3] }
  | _ => none }
def codeBackRow : OpenClaim := { program := "ytakmlfbejbelaaa", sum := "47d4e47689b1274065a196f3ae61be99cdb32fb5869280af60f804db82f00271", func := "cloakroom/cloakroomlaw01.CodeBack", spec := "codeBack", apart := false }
def CodeBackSaid : Prop := codeBackRow.holds Try.pinned (OpenSpec.ofChange codeBackSpec)

/-- ITS FALSE NEIGHBOUR: 'it returns false'. Refute it at one input. -/
def codeBackWrong : ChangeSpec := { name := "codeBack", fn := fun _ => fun
  | [d1, d2, d3] => { results := [.lit (.bool false)], args := [d1, d2, d3] }
  | _ => none }
def CodeBackWrongFalsely : Prop := codeBackRow.holds Try.pinned (OpenSpec.ofChange codeBackWrong)

/-- 'cloakroomlaw01.CodePlace': WHATEVER THE INPUT: true; the input reads as it did. -/
def codePlaceSpec : ChangeSpec := { name := "codePlace", fn := fun _ => fun
  | [d1, d2, d3, d4, d5] => { results := [.lit (.bool true)], args := [d1, d2, d3, d4, d5] }
  | _ => none }
def codePlaceRow : OpenClaim := { program := "ytakmlfbejbelaaa", sum := "47d4e47689b1274065a196f3ae61be99cdb32fb5869280af60f804db82f00271", func := "cloakroom/cloakroomlaw01.CodePlace", spec := "codePlace", apart := false }
def CodePlaceSaid : Prop := codePlaceRow.holds Try.pinned (OpenSpec.ofChange codePlaceSpec)

/-- ITS FALSE NEIGHBOUR: 'it returns false'. Refute it at one input. -/
def codePlaceWrong : ChangeSpec := { name := "codePlace", fn := fun _ => fun
  | [d1, d2, d3, d4, d5] => { results := [.lit (.bool false)], args := [d1, d2, d3, d4, d5] }
  | _ => none }
def CodePlaceWrongFalsely : Prop := codePlaceRow.holds Try.pinned (OpenSpec.ofChange codePlaceWrong)

/-- 'cloakroomlaw01.CodeAsk': WHATEVER THE INPUT: true; the input reads as it did. -/
def codeAskSpec : ChangeSpec := { name := "codeAsk", fn := fun _ => fun
  | [d1, d2] => { results := [.lit (.bool true)], args := [d1, d2] }
  | _ => none }
def codeAskRow : OpenClaim := { program := "ytakmlfbejbelaaa", sum := "47d4e47689b1274065a196f3ae61be99cdb32fb5869280af60f804db82f00271", func := "cloakroom/cloakroomlaw01.CodeAsk", spec := "codeAsk", apart := false }
def CodeAskSaid : Prop := codeAskRow.holds Try.pinned (OpenSpec.ofChange codeAskSpec)

/-- ITS FALSE NEIGHBOUR: 'it returns false'. Refute it at one input. -/
def codeAskWrong : ChangeSpec := { name := "codeAsk", fn := fun _ => fun
  | [d1, d2] => { results := [.lit (.bool false)], args := [d1, d2] }
  | _ => none }
def CodeAskWrongFalsely : Prop := codeAskRow.holds Try.pinned (OpenSpec.ofChange codeAskWrong)

/-- 'cloakroomlaw01.CodeNames': WHATEVER THE INPUT: true; the input reads as it did. -/
def codeNamesSpec : ChangeSpec := { name := "codeNames", fn := fun _ => fun
  | [] => { results := [.lit (.bool true)], args := [] }
  | _ => none }
def codeNamesRow : OpenClaim := { program := "ytakmlfbejbelaaa", sum := "47d4e47689b1274065a196f3ae61be99cdb32fb5869280af60f804db82f00271", func := "cloakroom/cloakroomlaw01.CodeNames", spec := "codeNames", apart := false }
def CodeNamesSaid : Prop := codeNamesRow.holds Try.pinned (OpenSpec.ofChange codeNamesSpec)

/-- ITS FALSE NEIGHBOUR: 'it returns false'. Refute it at one input. -/
def codeNamesWrong : ChangeSpec := { name := "codeNames", fn := fun _ => fun
  | [] => { results := [.lit (.bool false)], args := [] }
  | _ => none }
def CodeNamesWrongFalsely : Prop := codeNamesRow.holds Try.pinned (OpenSpec.ofChange codeNamesWrong)

/- THE SECOND FORM. 'bulk': how many values and letters a reading holds, each counted each time it is reached (what is shared counts as often as it is met; a slice's spare places count too). A statement '..UptoSaid' is the law's where the arguments, and the package variables that the reading takes, are together of bulk at most 1048576: NARROWER than '..Said'. Prove '..Said' where nothing that the law and all that it calls make is longer than what came in: it says more and counts as full. Else prove '..UptoSaid'. A law counts once. -/
mutual
def uptoBulk {H : Type} : DataW H → Nat
  | .lit (.string bytes) => bytes.length + 1
  | .lit _ => 1
  | .nil => 1
  | .ptr d => uptoBulk d + 1
  | .slice elems spare => uptoBulkAll elems + uptoBulkAll spare + 1
  | .agg parts => uptoBulkAll parts + 1
  | .iface _ d => uptoBulk d + 1
  | .map entries => uptoBulkEntries entries + 1
  | .held _ => 1
def uptoBulkAll {H : Type} : List (DataW H) → Nat
  | [] => 0
  | d :: r => uptoBulk d + uptoBulkAll r
def uptoBulkEntries {H : Type} : List (Lit × DataW H) → Nat
  | [] => 0
  | x :: r => uptoBulkEntry x + uptoBulkEntries r
def uptoBulkEntry {H : Type} : Lit × DataW H → Nat
  | (.string bytes, d) => bytes.length + uptoBulk d + 1
  | (_, d) => uptoBulk d + 1
 end
def uptoSmall : (H : Type) → List (DataW H) → Bool := fun _ ds => decide (uptoBulkAll ds ≤ 1048576)
def OpenSpec.upto (s : _root_.Go.ChangeSpec) : _root_.Go.OpenSpec := { _root_.Go.OpenSpec.ofChange s with cond := some uptoSmall }

/-- 'cloakroomlaw01.CodeShards', WHERE WHAT IT READS IS OF BULK AT MOST 1048576: true; the input reads as it did. -/
def codeShardsUptoRow : OpenClaim := { program := "ytakmlfbejbelaaa", sum := "47d4e47689b1274065a196f3ae61be99cdb32fb5869280af60f804db82f00271", func := "cloakroom/cloakroomlaw01.CodeShards", spec := "codeShards", apart := false, narrowed := true }
def CodeShardsUptoSaid : Prop := codeShardsUptoRow.holds Try.pinned (OpenSpec.upto codeShardsSpec)

/-- 'cloakroomlaw01.CodeNumbers', WHERE WHAT IT READS IS OF BULK AT MOST 1048576: true; the input reads as it did. -/
def codeNumbersUptoRow : OpenClaim := { program := "ytakmlfbejbelaaa", sum := "47d4e47689b1274065a196f3ae61be99cdb32fb5869280af60f804db82f00271", func := "cloakroom/cloakroomlaw01.CodeNumbers", spec := "codeNumbers", apart := false, narrowed := true }
def CodeNumbersUptoSaid : Prop := codeNumbersUptoRow.holds Try.pinned (OpenSpec.upto codeNumbersSpec)

/-- 'cloakroomlaw01.CodeCommands', WHERE WHAT IT READS IS OF BULK AT MOST 1048576: true; the input reads as it did. -/
def codeCommandsUptoRow : OpenClaim := { program := "ytakmlfbejbelaaa", sum := "47d4e47689b1274065a196f3ae61be99cdb32fb5869280af60f804db82f00271", func := "cloakroom/cloakroomlaw01.CodeCommands", spec := "codeCommands", apart := false, narrowed := true }
def CodeCommandsUptoSaid : Prop := codeCommandsUptoRow.holds Try.pinned (OpenSpec.upto codeCommandsSpec)

/-- 'cloakroomlaw01.CodeChanges', WHERE WHAT IT READS IS OF BULK AT MOST 1048576: true; the input reads as it did. -/
def codeChangesUptoRow : OpenClaim := { program := "ytakmlfbejbelaaa", sum := "47d4e47689b1274065a196f3ae61be99cdb32fb5869280af60f804db82f00271", func := "cloakroom/cloakroomlaw01.CodeChanges", spec := "codeChanges", apart := false, narrowed := true }
def CodeChangesUptoSaid : Prop := codeChangesUptoRow.holds Try.pinned (OpenSpec.upto codeChangesSpec)

/-- 'cloakroomlaw01.CodeRecord', WHERE WHAT IT READS IS OF BULK AT MOST 1048576: true; the input reads as it did. -/
def codeRecordUptoRow : OpenClaim := { program := "ytakmlfbejbelaaa", sum := "47d4e47689b1274065a196f3ae61be99cdb32fb5869280af60f804db82f00271", func := "cloakroom/cloakroomlaw01.CodeRecord", spec := "codeRecord", apart := false, narrowed := true }
def CodeRecordUptoSaid : Prop := codeRecordUptoRow.holds Try.pinned (OpenSpec.upto codeRecordSpec)

/-- 'cloakroomlaw01.CodeBack', WHERE WHAT IT READS IS OF BULK AT MOST 1048576: true; the input reads as it did. -/
def codeBackUptoRow : OpenClaim := { program := "ytakmlfbejbelaaa", sum := "47d4e47689b1274065a196f3ae61be99cdb32fb5869280af60f804db82f00271", func := "cloakroom/cloakroomlaw01.CodeBack", spec := "codeBack", apart := false, narrowed := true }
def CodeBackUptoSaid : Prop := codeBackUptoRow.holds Try.pinned (OpenSpec.upto codeBackSpec)

/-- 'cloakroomlaw01.CodePlace', WHERE WHAT IT READS IS OF BULK AT MOST 1048576: true; the input reads as it did. -/
def codePlaceUptoRow : OpenClaim := { program := "ytakmlfbejbelaaa", sum := "47d4e47689b1274065a196f3ae61be99cdb32fb5869280af60f804db82f00271", func := "cloakroom/cloakroomlaw01.CodePlace", spec := "codePlace", apart := false, narrowed := true }
def CodePlaceUptoSaid : Prop := codePlaceUptoRow.holds Try.pinned (OpenSpec.upto codePlaceSpec)

/-- 'cloakroomlaw01.CodeAsk', WHERE WHAT IT READS IS OF BULK AT MOST 1048576: true; the input reads as it did. -/
def codeAskUptoRow : OpenClaim := { program := "ytakmlfbejbelaaa", sum := "47d4e47689b1274065a196f3ae61be99cdb32fb5869280af60f804db82f00271", func := "cloakroom/cloakroomlaw01.CodeAsk", spec := "codeAsk", apart := false, narrowed := true }
def CodeAskUptoSaid : Prop := codeAskUptoRow.holds Try.pinned (OpenSpec.upto codeAskSpec)

/-- 'cloakroomlaw01.CodeNames', WHERE WHAT IT READS IS OF BULK AT MOST 1048576: true; the input reads as it did. -/
def codeNamesUptoRow : OpenClaim := { program := "ytakmlfbejbelaaa", sum := "47d4e47689b1274065a196f3ae61be99cdb32fb5869280af60f804db82f00271", func := "cloakroom/cloakroomlaw01.CodeNames", spec := "codeNames", apart := false, narrowed := true }
def CodeNamesUptoSaid : Prop := codeNamesUptoRow.holds Try.pinned (OpenSpec.upto codeNamesSpec)

end Rows
end Go.Proofs.Ytakmlfbejbelaaa
