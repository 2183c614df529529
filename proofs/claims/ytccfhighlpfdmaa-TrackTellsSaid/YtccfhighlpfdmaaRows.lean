/-
  No cell of these rows narrows 'for every input' (looked for: loops, veiled, ifaces, maps, wideKeys, modest, calm, conditions, laid).
  DERIVED. THE GIVEN ROWS OF THIS SEAT. 5 by the template 'for every input the law returns true; each argument reads behind the call as it read before'; 0 by the template 'total and deterministic' (their statements: YtccfhighlpfdmaaTotals.lean).
  GIVEN WITH THE SEED: the statements are not yours to turn. If you find one false, say at which input.
  Laid BY PROGRAM, IN A SANDBOX (cutbox-rows.mjs): the forced cells as the released guide's own fill.sh prints them over the translation f3e4487311e56688… (all of the seat's roots in one cut). By AI agents, Wed Nov 11 2026. No macro, syntax, notation, axiom, sorry.
-/
import Derived.Test.YtccfhighlpfdmaaChecked
import GoSem.Claim
import GoSem.ClaimJoined
import GoSem.ClaimMapViews
import Derived.JoinedTies
import Derived.KernelRfl
namespace Go.Proofs.Ytccfhighlpfdmaa
/- THE CELL 'sum', in the pinned program and in every row, IS THE sha256 OF THE DUMP (.gsa) THAT YtccfhighlpfdmaaProg.lean LOADS. Nothing in Lean hashes anything: it is a label: what it is worth is what the hold of that sum in a sandbox is worth. -/
noncomputable def Try.pinned : Pinned := { name := "ytccfhighlpfdmaa", sum := "f3e4487311e5668892cd6480255e78413c6a89ec02a136c447e1071717ada39f", checked := Try.checked }
namespace Rows
def none {H : Type} : Left H := { results := [], args := [] }

/-- 'cloakroomlaw19.TrackChange': WHATEVER THE INPUT: true; the input reads as it did. -/
def trackChangeSpec : ChangeSpec := { name := "trackChange", fn := fun _ => fun
  | [d1, d2] => { results := [.lit (.bool true)], args := [d1, d2] }
  | _ => none }
def trackChangeRow : OpenClaim := { program := "ytccfhighlpfdmaa", sum := "f3e4487311e5668892cd6480255e78413c6a89ec02a136c447e1071717ada39f", func := "cloakroom/cloakroomlaw19.TrackChange", spec := "trackChange", unfollowed := true, recurses := true, apart := false }
def TrackChangeSaid : Prop := trackChangeRow.holds Try.pinned (OpenSpec.ofChange trackChangeSpec)

/-- ITS FALSE NEIGHBOUR: 'it returns false'. Refute it at one input. -/
def trackChangeWrong : ChangeSpec := { name := "trackChange", fn := fun _ => fun
  | [d1, d2] => { results := [.lit (.bool false)], args := [d1, d2] }
  | _ => none }
def TrackChangeWrongFalsely : Prop := trackChangeRow.holds Try.pinned (OpenSpec.ofChange trackChangeWrong)

/-- 'cloakroomlaw19.TrackRead': WHATEVER THE INPUT: true; the input reads as it did. -/
def trackReadSpec : ChangeSpec := { name := "trackRead", fn := fun _ => fun
  | [d1, d2, d3] => { results := [.lit (.bool true)], args := [d1, d2, d3] }
  | _ => none }
def trackReadRow : OpenClaim := { program := "ytccfhighlpfdmaa", sum := "f3e4487311e5668892cd6480255e78413c6a89ec02a136c447e1071717ada39f", func := "cloakroom/cloakroomlaw19.TrackRead", spec := "trackRead", unfollowed := true, recurses := true, apart := false }
def TrackReadSaid : Prop := trackReadRow.holds Try.pinned (OpenSpec.ofChange trackReadSpec)

/-- ITS FALSE NEIGHBOUR: 'it returns false'. Refute it at one input. -/
def trackReadWrong : ChangeSpec := { name := "trackRead", fn := fun _ => fun
  | [d1, d2, d3] => { results := [.lit (.bool false)], args := [d1, d2, d3] }
  | _ => none }
def TrackReadWrongFalsely : Prop := trackReadRow.holds Try.pinned (OpenSpec.ofChange trackReadWrong)

/-- 'cloakroomlaw19.TrackNames': WHATEVER THE INPUT: true; the input reads as it did. -/
def trackNamesSpec : ChangeSpec := { name := "trackNames", fn := fun _ => fun
  | [] => { results := [.lit (.bool true)], args := [] }
  | _ => none }
def trackNamesRow : OpenClaim := { program := "ytccfhighlpfdmaa", sum := "f3e4487311e5668892cd6480255e78413c6a89ec02a136c447e1071717ada39f", func := "cloakroom/cloakroomlaw19.TrackNames", spec := "trackNames", unfollowed := true, recurses := true, apart := false }
def TrackNamesSaid : Prop := trackNamesRow.holds Try.pinned (OpenSpec.ofChange trackNamesSpec)

/-- ITS FALSE NEIGHBOUR: 'it returns false'. Refute it at one input. -/
def trackNamesWrong : ChangeSpec := { name := "trackNames", fn := fun _ => fun
  | [] => { results := [.lit (.bool false)], args := [] }
  | _ => none }
def TrackNamesWrongFalsely : Prop := trackNamesRow.holds Try.pinned (OpenSpec.ofChange trackNamesWrong)

/-- 'cloakroomlaw19.TrackNever': WHATEVER THE INPUT: true; the input reads as it did. -/
def trackNeverSpec : ChangeSpec := { name := "trackNever", fn := fun _ => fun
  | [d1, d2] => { results := [.lit (.bool true)], args := [d1, d2] }
  | _ => none }
def trackNeverRow : OpenClaim := { program := "ytccfhighlpfdmaa", sum := "f3e4487311e5668892cd6480255e78413c6a89ec02a136c447e1071717ada39f", func := "cloakroom/cloakroomlaw19.TrackNever", spec := "trackNever", unfollowed := true, recurses := true, apart := false }
def TrackNeverSaid : Prop := trackNeverRow.holds Try.pinned (OpenSpec.ofChange trackNeverSpec)

/-- ITS FALSE NEIGHBOUR: 'it returns false'. Refute it at one input. -/
def trackNeverWrong : ChangeSpec := { name := "trackNever", fn := fun _ => fun
  | [d1, d2] => { results := [.lit (.bool false)], args := [d1, d2] }
  | _ => none }
def TrackNeverWrongFalsely : Prop := trackNeverRow.holds Try.pinned (OpenSpec.ofChange trackNeverWrong)

/-- 'cloakroomlaw19.TrackTells': WHATEVER THE INPUT: true; the input reads as it did. -/
def trackTellsSpec : ChangeSpec := { name := "trackTells", fn := fun _ => fun
  | [d1, d2, d3, d4, d5] => { results := [.lit (.bool true)], args := [d1, d2, d3, d4, d5] }
  | _ => none }
def trackTellsRow : OpenClaim := { program := "ytccfhighlpfdmaa", sum := "f3e4487311e5668892cd6480255e78413c6a89ec02a136c447e1071717ada39f", func := "cloakroom/cloakroomlaw19.TrackTells", spec := "trackTells", unfollowed := true, recurses := true, apart := false }
def TrackTellsSaid : Prop := trackTellsRow.holds Try.pinned (OpenSpec.ofChange trackTellsSpec)

/-- ITS FALSE NEIGHBOUR: 'it returns false'. Refute it at one input. -/
def trackTellsWrong : ChangeSpec := { name := "trackTells", fn := fun _ => fun
  | [d1, d2, d3, d4, d5] => { results := [.lit (.bool false)], args := [d1, d2, d3, d4, d5] }
  | _ => none }
def TrackTellsWrongFalsely : Prop := trackTellsRow.holds Try.pinned (OpenSpec.ofChange trackTellsWrong)

/- THE SECOND FORM. 'bulk': how many values and letters a reading holds, each counted each time it is reached (what is shared counts as often as it is met; a slice's spare places count too). A statement '..UptoSaid' is the law's where the arguments, and the package variables that the reading takes, are together of bulk at most 1048576: NARROWER than '..Said'. Prove '..Said' where nothing that the law and all that it calls make is longer than what came in: it says more and counts as full. Else prove '..UptoSaid'. A law counts once. -/
mutual
def uptoBulk {H : Type} : DataW H → Nat
  | .lit (.string bytes) => bytes.length + 1
  | .lit _ => 1
  | .nil => 1
  | .ptr d => uptoBulk d + 1
  | .slice elems spare => uptoBulkAll elems + uptoBulkAll spare + 1
  | .agg parts => uptoBulkAll parts + 1
  | .iface _ d => uptoBulk d + 1
  | .map entries => uptoBulkEntries entries + 1
  | .held _ => 1
def uptoBulkAll {H : Type} : List (DataW H) → Nat
  | [] => 0
  | d :: r => uptoBulk d + uptoBulkAll r
def uptoBulkEntries {H : Type} : List (Lit × DataW H) → Nat
  | [] => 0
  | x :: r => uptoBulkEntry x + uptoBulkEntries r
def uptoBulkEntry {H : Type} : Lit × DataW H → Nat
  | (.string bytes, d) => bytes.length + uptoBulk d + 1
  | (_, d) => uptoBulk d + 1
 end
def uptoSmall : (H : Type) → List (DataW H) → Bool := fun _ ds => decide (uptoBulkAll ds ≤ 1048576)
def OpenSpec.upto (s : _root_.Go.ChangeSpec) : _root_.Go.OpenSpec := { _root_.Go.OpenSpec.ofChange s with cond := some uptoSmall }

/-- 'cloakroomlaw19.TrackChange', WHERE WHAT IT READS IS OF BULK AT MOST 1048576: true; the input reads as it did. -/
def trackChangeUptoRow : OpenClaim := { program := "ytccfhighlpfdmaa", sum := "f3e4487311e5668892cd6480255e78413c6a89ec02a136c447e1071717ada39f", func := "cloakroom/cloakroomlaw19.TrackChange", spec := "trackChange", unfollowed := true, recurses := true, apart := false, narrowed := true }
def TrackChangeUptoSaid : Prop := trackChangeUptoRow.holds Try.pinned (OpenSpec.upto trackChangeSpec)

/-- 'cloakroomlaw19.TrackRead', WHERE WHAT IT READS IS OF BULK AT MOST 1048576: true; the input reads as it did. -/
def trackReadUptoRow : OpenClaim := { program := "ytccfhighlpfdmaa", sum := "f3e4487311e5668892cd6480255e78413c6a89ec02a136c447e1071717ada39f", func := "cloakroom/cloakroomlaw19.TrackRead", spec := "trackRead", unfollowed := true, recurses := true, apart := false, narrowed := true }
def TrackReadUptoSaid : Prop := trackReadUptoRow.holds Try.pinned (OpenSpec.upto trackReadSpec)

/-- 'cloakroomlaw19.TrackNames', WHERE WHAT IT READS IS OF BULK AT MOST 1048576: true; the input reads as it did. -/
def trackNamesUptoRow : OpenClaim := { program := "ytccfhighlpfdmaa", sum := "f3e4487311e5668892cd6480255e78413c6a89ec02a136c447e1071717ada39f", func := "cloakroom/cloakroomlaw19.TrackNames", spec := "trackNames", unfollowed := true, recurses := true, apart := false, narrowed := true }
def TrackNamesUptoSaid : Prop := trackNamesUptoRow.holds Try.pinned (OpenSpec.upto trackNamesSpec)

/-- 'cloakroomlaw19.TrackNever', WHERE WHAT IT READS IS OF BULK AT MOST 1048576: true; the input reads as it did. -/
def trackNeverUptoRow : OpenClaim := { program := "ytccfhighlpfdmaa", sum := "f3e4487311e5668892cd6480255e78413c6a89ec02a136c447e1071717ada39f", func := "cloakroom/cloakroomlaw19.TrackNever", spec := "trackNever", unfollowed := true, recurses := true, apart := false, narrowed := true }
def TrackNeverUptoSaid : Prop := trackNeverUptoRow.holds Try.pinned (OpenSpec.upto trackNeverSpec)

/-- 'cloakroomlaw19.TrackTells', WHERE WHAT IT READS IS OF BULK AT MOST 1048576: true; the input reads as it did. -/
def trackTellsUptoRow : OpenClaim := { program := "ytccfhighlpfdmaa", sum := "f3e4487311e5668892cd6480255e78413c6a89ec02a136c447e1071717ada39f", func := "cloakroom/cloakroomlaw19.TrackTells", spec := "trackTells", unfollowed := true, recurses := true, apart := false, narrowed := true }
def TrackTellsUptoSaid : Prop := trackTellsUptoRow.holds Try.pinned (OpenSpec.upto trackTellsSpec)

end Rows
end Go.Proofs.Ytccfhighlpfdmaa
