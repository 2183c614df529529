/-
  No cell of these rows narrows 'for every input' (looked for: loops, veiled, ifaces, maps, wideKeys, modest, calm, conditions, laid).
  DERIVED. THE GIVEN ROWS OF THIS SEAT. 6 by the template 'for every input the law returns true; each argument reads behind the call as it read before'; 0 by the template 'total and deterministic' (their statements: YtakllaigpjbgdaaTotals.lean).
  GIVEN WITH THE SEED: the statements are not yours to turn. If you find one false, say at which input.
  Laid BY PROGRAM, IN A SANDBOX (cutbox-rows.mjs): the forced cells as the released guide's own fill.sh prints them over the translation b223f0c6f0d04915… (all of the seat's roots in one cut). By AI agents, Wed Nov 11 2026. No macro, syntax, notation, axiom, sorry.
-/
import Derived.Test.YtakllaigpjbgdaaChecked
import GoSem.Claim
import GoSem.ClaimJoined
import GoSem.ClaimMapViews
import Derived.JoinedTies
import Derived.KernelRfl
namespace Go.Proofs.Ytakllaigpjbgdaa
/- THE CELL 'sum', in the pinned program and in every row, IS THE sha256 OF THE DUMP (.gsa) THAT YtakllaigpjbgdaaProg.lean LOADS. Nothing in Lean hashes anything: it is a label: what it is worth is what the hold of that sum in a sandbox is worth. -/
noncomputable def Try.pinned : Pinned := { name := "ytakllaigpjbgdaa", sum := "b223f0c6f0d049156577ac047c8fe8371b7de48f055e4e3dcd12dd0b63be133c", checked := Try.checked }
namespace Rows
def none {H : Type} : Left H := { results := [], args := [] }

/-- 'cloakroomlaw07.LruKeeps': WHATEVER THE INPUT: true; the input reads as it did. -/
def lruKeepsSpec : ChangeSpec := { name := "lruKeeps", fn := fun _ => fun
  | [d1, d2] => { results := [.lit (.bool true)], args := [d1, d2] }
  | _ => none }
def lruKeepsRow : OpenClaim := { program := "ytakllaigpjbgdaa", sum := "b223f0c6f0d049156577ac047c8fe8371b7de48f055e4e3dcd12dd0b63be133c", func := "cloakroom/cloakroomlaw07.LruKeeps", spec := "lruKeeps", inPlace := ["slices.overlaps[string]"], apart := false }
def LruKeepsSaid : Prop := lruKeepsRow.holds Try.pinned (OpenSpec.ofChange lruKeepsSpec)

/-- ITS FALSE NEIGHBOUR: 'it returns false'. Refute it at one input. -/
def lruKeepsWrong : ChangeSpec := { name := "lruKeeps", fn := fun _ => fun
  | [d1, d2] => { results := [.lit (.bool false)], args := [d1, d2] }
  | _ => none }
def LruKeepsWrongFalsely : Prop := lruKeepsRow.holds Try.pinned (OpenSpec.ofChange lruKeepsWrong)

/-- 'cloakroomlaw07.LruFirst': WHATEVER THE INPUT: true; the input reads as it did. -/
def lruFirstSpec : ChangeSpec := { name := "lruFirst", fn := fun _ => fun
  | [d] => { results := [.lit (.bool true)], args := [d] }
  | _ => none }
def lruFirstRow : OpenClaim := { program := "ytakllaigpjbgdaa", sum := "b223f0c6f0d049156577ac047c8fe8371b7de48f055e4e3dcd12dd0b63be133c", func := "cloakroom/cloakroomlaw07.LruFirst", spec := "lruFirst", inPlace := ["slices.overlaps[string]"], apart := false }
def LruFirstSaid : Prop := lruFirstRow.holds Try.pinned (OpenSpec.ofChange lruFirstSpec)

/-- ITS FALSE NEIGHBOUR: 'it returns false'. Refute it at one input. -/
def lruFirstWrong : ChangeSpec := { name := "lruFirst", fn := fun _ => fun
  | [d] => { results := [.lit (.bool false)], args := [d] }
  | _ => none }
def LruFirstWrongFalsely : Prop := lruFirstRow.holds Try.pinned (OpenSpec.ofChange lruFirstWrong)

/-- 'cloakroomlaw07.LruHits': WHATEVER THE INPUT: true; the input reads as it did. -/
def lruHitsSpec : ChangeSpec := { name := "lruHits", fn := fun _ => fun
  | [d1, d2, d3] => { results := [.lit (.bool true)], args := [d1, d2, d3] }
  | _ => none }
def lruHitsRow : OpenClaim := { program := "ytakllaigpjbgdaa", sum := "b223f0c6f0d049156577ac047c8fe8371b7de48f055e4e3dcd12dd0b63be133c", func := "cloakroom/cloakroomlaw07.LruHits", spec := "lruHits", inPlace := ["slices.overlaps[string]"], apart := false }
def LruHitsSaid : Prop := lruHitsRow.holds Try.pinned (OpenSpec.ofChange lruHitsSpec)

/-- ITS FALSE NEIGHBOUR: 'it returns false'. Refute it at one input. -/
def lruHitsWrong : ChangeSpec := { name := "lruHits", fn := fun _ => fun
  | [d1, d2, d3] => { results := [.lit (.bool false)], args := [d1, d2, d3] }
  | _ => none }
def LruHitsWrongFalsely : Prop := lruHitsRow.holds Try.pinned (OpenSpec.ofChange lruHitsWrong)

/-- 'cloakroomlaw07.LruNames': WHATEVER THE INPUT: true; the input reads as it did. -/
def lruNamesSpec : ChangeSpec := { name := "lruNames", fn := fun _ => fun
  | [] => { results := [.lit (.bool true)], args := [] }
  | _ => none }
def lruNamesRow : OpenClaim := { program := "ytakllaigpjbgdaa", sum := "b223f0c6f0d049156577ac047c8fe8371b7de48f055e4e3dcd12dd0b63be133c", func := "cloakroom/cloakroomlaw07.LruNames", spec := "lruNames", inPlace := ["slices.overlaps[string]"], apart := false }
def LruNamesSaid : Prop := lruNamesRow.holds Try.pinned (OpenSpec.ofChange lruNamesSpec)

/-- ITS FALSE NEIGHBOUR: 'it returns false'. Refute it at one input. -/
def lruNamesWrong : ChangeSpec := { name := "lruNames", fn := fun _ => fun
  | [] => { results := [.lit (.bool false)], args := [] }
  | _ => none }
def LruNamesWrongFalsely : Prop := lruNamesRow.holds Try.pinned (OpenSpec.ofChange lruNamesWrong)

/-- 'cloakroomlaw07.LruTurns': WHATEVER THE INPUT: true; the input reads as it did. -/
def lruTurnsSpec : ChangeSpec := { name := "lruTurns", fn := fun _ => fun
  | [d1, d2] => { results := [.lit (.bool true)], args := [d1, d2] }
  | _ => none }
def lruTurnsRow : OpenClaim := { program := "ytakllaigpjbgdaa", sum := "b223f0c6f0d049156577ac047c8fe8371b7de48f055e4e3dcd12dd0b63be133c", func := "cloakroom/cloakroomlaw07.LruTurns", spec := "lruTurns", inPlace := ["slices.overlaps[string]"], apart := false }
def LruTurnsSaid : Prop := lruTurnsRow.holds Try.pinned (OpenSpec.ofChange lruTurnsSpec)

/-- ITS FALSE NEIGHBOUR: 'it returns false'. Refute it at one input. -/
def lruTurnsWrong : ChangeSpec := { name := "lruTurns", fn := fun _ => fun
  | [d1, d2] => { results := [.lit (.bool false)], args := [d1, d2] }
  | _ => none }
def LruTurnsWrongFalsely : Prop := lruTurnsRow.holds Try.pinned (OpenSpec.ofChange lruTurnsWrong)

/-- 'cloakroomlaw07.LruAll': WHATEVER THE INPUT: true; the input reads as it did. -/
def lruAllSpec : ChangeSpec := { name := "lruAll", fn := fun _ => fun
  | [d] => { results := [.lit (.bool true)], args := [d] }
  | _ => none }
def lruAllRow : OpenClaim := { program := "ytakllaigpjbgdaa", sum := "b223f0c6f0d049156577ac047c8fe8371b7de48f055e4e3dcd12dd0b63be133c", func := "cloakroom/cloakroomlaw07.LruAll", spec := "lruAll", inPlace := ["slices.overlaps[string]"], apart := false }
def LruAllSaid : Prop := lruAllRow.holds Try.pinned (OpenSpec.ofChange lruAllSpec)

/-- ITS FALSE NEIGHBOUR: 'it returns false'. Refute it at one input. -/
def lruAllWrong : ChangeSpec := { name := "lruAll", fn := fun _ => fun
  | [d] => { results := [.lit (.bool false)], args := [d] }
  | _ => none }
def LruAllWrongFalsely : Prop := lruAllRow.holds Try.pinned (OpenSpec.ofChange lruAllWrong)

/- THE SECOND FORM. 'bulk': how many values and letters a reading holds, each counted each time it is reached (what is shared counts as often as it is met; a slice's spare places count too). A statement '..UptoSaid' is the law's where the arguments, and the package variables that the reading takes, are together of bulk at most 1048576: NARROWER than '..Said'. Prove '..Said' where nothing that the law and all that it calls make is longer than what came in: it says more and counts as full. Else prove '..UptoSaid'. A law counts once. -/
mutual
def uptoBulk {H : Type} : DataW H → Nat
  | .lit (.string bytes) => bytes.length + 1
  | .lit _ => 1
  | .nil => 1
  | .ptr d => uptoBulk d + 1
  | .slice elems spare => uptoBulkAll elems + uptoBulkAll spare + 1
  | .agg parts => uptoBulkAll parts + 1
  | .iface _ d => uptoBulk d + 1
  | .map entries => uptoBulkEntries entries + 1
  | .held _ => 1
def uptoBulkAll {H : Type} : List (DataW H) → Nat
  | [] => 0
  | d :: r => uptoBulk d + uptoBulkAll r
def uptoBulkEntries {H : Type} : List (Lit × DataW H) → Nat
  | [] => 0
  | x :: r => uptoBulkEntry x + uptoBulkEntries r
def uptoBulkEntry {H : Type} : Lit × DataW H → Nat
  | (.string bytes, d) => bytes.length + uptoBulk d + 1
  | (_, d) => uptoBulk d + 1
 end
def uptoSmall : (H : Type) → List (DataW H) → Bool := fun _ ds => decide (uptoBulkAll ds ≤ 1048576)
def OpenSpec.upto (s : _root_.Go.ChangeSpec) : _root_.Go.OpenSpec := { _root_.Go.OpenSpec.ofChange s with cond := some uptoSmall }

/-- 'cloakroomlaw07.LruKeeps', WHERE WHAT IT READS IS OF BULK AT MOST 1048576: true; the input reads as it did. -/
def lruKeepsUptoRow : OpenClaim := { program := "ytakllaigpjbgdaa", sum := "b223f0c6f0d049156577ac047c8fe8371b7de48f055e4e3dcd12dd0b63be133c", func := "cloakroom/cloakroomlaw07.LruKeeps", spec := "lruKeeps", inPlace := ["slices.overlaps[string]"], apart := false, narrowed := true }
def LruKeepsUptoSaid : Prop := lruKeepsUptoRow.holds Try.pinned (OpenSpec.upto lruKeepsSpec)

/-- 'cloakroomlaw07.LruFirst', WHERE WHAT IT READS IS OF BULK AT MOST 1048576: true; the input reads as it did. -/
def lruFirstUptoRow : OpenClaim := { program := "ytakllaigpjbgdaa", sum := "b223f0c6f0d049156577ac047c8fe8371b7de48f055e4e3dcd12dd0b63be133c", func := "cloakroom/cloakroomlaw07.LruFirst", spec := "lruFirst", inPlace := ["slices.overlaps[string]"], apart := false, narrowed := true }
def LruFirstUptoSaid : Prop := lruFirstUptoRow.holds Try.pinned (OpenSpec.upto lruFirstSpec)

/-- 'cloakroomlaw07.LruHits', WHERE WHAT IT READS IS OF BULK AT MOST 1048576: true; the input reads as it did. -/
def lruHitsUptoRow : OpenClaim := { program := "ytakllaigpjbgdaa", sum := "b223f0c6f0d049156577ac047c8fe8371b7de48f055e4e3dcd12dd0b63be133c", func := "cloakroom/cloakroomlaw07.LruHits", spec := "lruHits", inPlace := ["slices.overlaps[string]"], apart := false, narrowed := true }
def LruHitsUptoSaid : Prop := lruHitsUptoRow.holds Try.pinned (OpenSpec.upto lruHitsSpec)

/-- 'cloakroomlaw07.LruNames', WHERE WHAT IT READS IS OF BULK AT MOST 1048576: true; the input reads as it did. -/
def lruNamesUptoRow : OpenClaim := { program := "ytakllaigpjbgdaa", sum := "b223f0c6f0d049156577ac047c8fe8371b7de48f055e4e3dcd12dd0b63be133c", func := "cloakroom/cloakroomlaw07.LruNames", spec := "lruNames", inPlace := ["slices.overlaps[string]"], apart := false, narrowed := true }
def LruNamesUptoSaid : Prop := lruNamesUptoRow.holds Try.pinned (OpenSpec.upto lruNamesSpec)

/-- 'cloakroomlaw07.LruTurns', WHERE WHAT IT READS IS OF BULK AT MOST 1048576: true; the input reads as it did. -/
def lruTurnsUptoRow : OpenClaim := { program := "ytakllaigpjbgdaa", sum := "b223f0c6f0d049156577ac047c8fe8371b7de48f055e4e3dcd12dd0b63be133c", func := "cloakroom/cloakroomlaw07.LruTurns", spec := "lruTurns", inPlace := ["slices.overlaps[string]"], apart := false, narrowed := true }
def LruTurnsUptoSaid : Prop := lruTurnsUptoRow.holds Try.pinned (OpenSpec.upto lruTurnsSpec)

/-- 'cloakroomlaw07.LruAll', WHERE WHAT IT READS IS OF BULK AT MOST 1048576: true; the input reads as it did. -/
def lruAllUptoRow : OpenClaim := { program := "ytakllaigpjbgdaa", sum := "b223f0c6f0d049156577ac047c8fe8371b7de48f055e4e3dcd12dd0b63be133c", func := "cloakroom/cloakroomlaw07.LruAll", spec := "lruAll", inPlace := ["slices.overlaps[string]"], apart := false, narrowed := true }
def LruAllUptoSaid : Prop := lruAllUptoRow.holds Try.pinned (OpenSpec.upto lruAllSpec)

end Rows
end Go.Proofs.Ytakllaigpjbgdaa
