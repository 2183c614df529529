/-
  No cell of these rows narrows 'for every input' (looked for: loops, veiled, ifaces, maps, wideKeys, modest, calm, conditions, laid).
  DERIVED. THE GIVEN ROWS OF THIS SEAT. 5 by the template 'for every input the law returns true; each argument reads behind the call as it read before'; 0 by the template 'total and deterministic' (their statements: YtgajdnlkcmjieaaTotals.lean).
  GIVEN WITH THE SEED: the statements are not yours to turn. If you find one false, say at which input.
  Laid BY PROGRAM, IN A SANDBOX (cutbox-rows.mjs): the forced cells as the released guide's own fill.sh prints them over the translation ef28d765fb5f03f9… (all of the seat's roots in one cut). By AI agents, Wed Nov 11 2026. No macro, syntax, notation, axiom, sorry.
-/
import Derived.Test.YtgajdnlkcmjieaaChecked
import GoSem.Claim
import GoSem.ClaimJoined
import GoSem.ClaimMapViews
import Derived.JoinedTies
import Derived.KernelRfl
namespace Go.Proofs.Ytgajdnlkcmjieaa
/- THE CELL 'sum', in the pinned program and in every row, IS THE sha256 OF THE DUMP (.gsa) THAT YtgajdnlkcmjieaaProg.lean LOADS. Nothing in Lean hashes anything: it is a label: what it is worth is what the hold of that sum in a sandbox is worth. -/
noncomputable def Try.pinned : Pinned := { name := "ytgajdnlkcmjieaa", sum := "ef28d765fb5f03f9c07cc3a21bed8b3e0f095a2f02e98ca17bc7a5657a9ff111", checked := Try.checked }
namespace Rows
def none {H : Type} : Left H := { results := [], args := [] }

/-- 'cloakroomlaw20.MirrorZero': WHATEVER THE INPUT: true; the input reads as it did. -/
def mirrorZeroSpec : ChangeSpec := { name := "mirrorZero", fn := fun _ => fun
  | [d1, d2] => { results := [.lit (.bool true)], args := [d1, d2] }
  | _ => none }
def mirrorZeroRow : OpenClaim := { program := "ytgajdnlkcmjieaa", sum := "ef28d765fb5f03f9c07cc3a21bed8b3e0f095a2f02e98ca17bc7a5657a9ff111", func := "cloakroom/cloakroomlaw20.MirrorZero", spec := "mirrorZero", unfollowed := true, recurses := true, apart := false }
def MirrorZeroSaid : Prop := mirrorZeroRow.holds Try.pinned (OpenSpec.ofChange mirrorZeroSpec)

/-- ITS FALSE NEIGHBOUR: 'it returns false'. Refute it at one input. -/
def mirrorZeroWrong : ChangeSpec := { name := "mirrorZero", fn := fun _ => fun
  | [d1, d2] => { results := [.lit (.bool false)], args := [d1, d2] }
  | _ => none }
def MirrorZeroWrongFalsely : Prop := mirrorZeroRow.holds Try.pinned (OpenSpec.ofChange mirrorZeroWrong)

/-- 'cloakroomlaw20.MirrorNames': WHATEVER THE INPUT: true; the input reads as it did. -/
def mirrorNamesSpec : ChangeSpec := { name := "mirrorNames", fn := fun _ => fun
  | [] => { results := [.lit (.bool true)], args := [] }
  | _ => none }
def mirrorNamesRow : OpenClaim := { program := "ytgajdnlkcmjieaa", sum := "ef28d765fb5f03f9c07cc3a21bed8b3e0f095a2f02e98ca17bc7a5657a9ff111", func := "cloakroom/cloakroomlaw20.MirrorNames", spec := "mirrorNames", unfollowed := true, recurses := true, apart := false }
def MirrorNamesSaid : Prop := mirrorNamesRow.holds Try.pinned (OpenSpec.ofChange mirrorNamesSpec)

/-- ITS FALSE NEIGHBOUR: 'it returns false'. Refute it at one input. -/
def mirrorNamesWrong : ChangeSpec := { name := "mirrorNames", fn := fun _ => fun
  | [] => { results := [.lit (.bool false)], args := [] }
  | _ => none }
def MirrorNamesWrongFalsely : Prop := mirrorNamesRow.holds Try.pinned (OpenSpec.ofChange mirrorNamesWrong)

/-- 'cloakroomlaw20.MirrorKeeps': WHATEVER THE INPUT: true; the input reads as it did. -/
def mirrorKeepsSpec : ChangeSpec := { name := "mirrorKeeps", fn := fun _ => fun
  | [d1, d2, d3, d4, d5] => { results := [.lit (.bool true)], args := [d1, d2, d3, d4, d5] }
  | _ => none }
def mirrorKeepsRow : OpenClaim := { program := "ytgajdnlkcmjieaa", sum := "ef28d765fb5f03f9c07cc3a21bed8b3e0f095a2f02e98ca17bc7a5657a9ff111", func := "cloakroom/cloakroomlaw20.MirrorKeeps", spec := "mirrorKeeps", unfollowed := true, recurses := true, apart := false }
def MirrorKeepsSaid : Prop := mirrorKeepsRow.holds Try.pinned (OpenSpec.ofChange mirrorKeepsSpec)

/-- ITS FALSE NEIGHBOUR: 'it returns false'. Refute it at one input. -/
def mirrorKeepsWrong : ChangeSpec := { name := "mirrorKeeps", fn := fun _ => fun
  | [d1, d2, d3, d4, d5] => { results := [.lit (.bool false)], args := [d1, d2, d3, d4, d5] }
  | _ => none }
def MirrorKeepsWrongFalsely : Prop := mirrorKeepsRow.holds Try.pinned (OpenSpec.ofChange mirrorKeepsWrong)

/-- 'cloakroomlaw20.MirrorHits': WHATEVER THE INPUT: true; the input reads as it did. -/
def mirrorHitsSpec : ChangeSpec := { name := "mirrorHits", fn := fun _ => fun
  | [d1, d2, d3] => { results := [.lit (.bool true)], args := [d1, d2, d3] }
  | _ => none }
def mirrorHitsRow : OpenClaim := { program := "ytgajdnlkcmjieaa", sum := "ef28d765fb5f03f9c07cc3a21bed8b3e0f095a2f02e98ca17bc7a5657a9ff111", func := "cloakroom/cloakroomlaw20.MirrorHits", spec := "mirrorHits", unfollowed := true, recurses := true, apart := false }
def MirrorHitsSaid : Prop := mirrorHitsRow.holds Try.pinned (OpenSpec.ofChange mirrorHitsSpec)

/-- ITS FALSE NEIGHBOUR: 'it returns false'. Refute it at one input. -/
def mirrorHitsWrong : ChangeSpec := { name := "mirrorHits", fn := fun _ => fun
  | [d1, d2, d3] => { results := [.lit (.bool false)], args := [d1, d2, d3] }
  | _ => none }
def MirrorHitsWrongFalsely : Prop := mirrorHitsRow.holds Try.pinned (OpenSpec.ofChange mirrorHitsWrong)

/-- 'cloakroomlaw20.MirrorStays': WHATEVER THE INPUT: true; the input reads as it did. -/
def mirrorStaysSpec : ChangeSpec := { name := "mirrorStays", fn := fun _ => fun
  | [d1, d2, d3] => { results := [.lit (.bool true)], args := [d1, d2, d3] }
  | _ => none }
def mirrorStaysRow : OpenClaim := { program := "ytgajdnlkcmjieaa", sum := "ef28d765fb5f03f9c07cc3a21bed8b3e0f095a2f02e98ca17bc7a5657a9ff111", func := "cloakroom/cloakroomlaw20.MirrorStays", spec := "mirrorStays", unfollowed := true, recurses := true, apart := false }
def MirrorStaysSaid : Prop := mirrorStaysRow.holds Try.pinned (OpenSpec.ofChange mirrorStaysSpec)

/-- ITS FALSE NEIGHBOUR: 'it returns false'. Refute it at one input. -/
def mirrorStaysWrong : ChangeSpec := { name := "mirrorStays", fn := fun _ => fun
  | [d1, d2, d3] => { results := [.lit (.bool false)], args := [d1, d2, d3] }
  | _ => none }
def MirrorStaysWrongFalsely : Prop := mirrorStaysRow.holds Try.pinned (OpenSpec.ofChange mirrorStaysWrong)

/- THE SECOND FORM. 'bulk': how many values and letters a reading holds, each counted each time it is reached (what is shared counts as often as it is met; a slice's spare places count too). A statement '..UptoSaid' is the law's where the arguments, and the package variables that the reading takes, are together of bulk at most 1048576: NARROWER than '..Said'. Prove '..Said' where nothing that the law and all that it calls make is longer than what came in: it says more and counts as full. Else prove '..UptoSaid'. A law counts once. -/
mutual
def uptoBulk {H : Type} : DataW H → Nat
  | .lit (.string bytes) => bytes.length + 1
  | .lit _ => 1
  | .nil => 1
  | .ptr d => uptoBulk d + 1
  | .slice elems spare => uptoBulkAll elems + uptoBulkAll spare + 1
  | .agg parts => uptoBulkAll parts + 1
  | .iface _ d => uptoBulk d + 1
  | .map entries => uptoBulkEntries entries + 1
  | .held _ => 1
def uptoBulkAll {H : Type} : List (DataW H) → Nat
  | [] => 0
  | d :: r => uptoBulk d + uptoBulkAll r
def uptoBulkEntries {H : Type} : List (Lit × DataW H) → Nat
  | [] => 0
  | x :: r => uptoBulkEntry x + uptoBulkEntries r
def uptoBulkEntry {H : Type} : Lit × DataW H → Nat
  | (.string bytes, d) => bytes.length + uptoBulk d + 1
  | (_, d) => uptoBulk d + 1
 end
def uptoSmall : (H : Type) → List (DataW H) → Bool := fun _ ds => decide (uptoBulkAll ds ≤ 1048576)
def OpenSpec.upto (s : _root_.Go.ChangeSpec) : _root_.Go.OpenSpec := { _root_.Go.OpenSpec.ofChange s with cond := some uptoSmall }

/-- 'cloakroomlaw20.MirrorZero', WHERE WHAT IT READS IS OF BULK AT MOST 1048576: true; the input reads as it did. -/
def mirrorZeroUptoRow : OpenClaim := { program := "ytgajdnlkcmjieaa", sum := "ef28d765fb5f03f9c07cc3a21bed8b3e0f095a2f02e98ca17bc7a5657a9ff111", func := "cloakroom/cloakroomlaw20.MirrorZero", spec := "mirrorZero", unfollowed := true, recurses := true, apart := false, narrowed := true }
def MirrorZeroUptoSaid : Prop := mirrorZeroUptoRow.holds Try.pinned (OpenSpec.upto mirrorZeroSpec)

/-- 'cloakroomlaw20.MirrorNames', WHERE WHAT IT READS IS OF BULK AT MOST 1048576: true; the input reads as it did. -/
def mirrorNamesUptoRow : OpenClaim := { program := "ytgajdnlkcmjieaa", sum := "ef28d765fb5f03f9c07cc3a21bed8b3e0f095a2f02e98ca17bc7a5657a9ff111", func := "cloakroom/cloakroomlaw20.MirrorNames", spec := "mirrorNames", unfollowed := true, recurses := true, apart := false, narrowed := true }
def MirrorNamesUptoSaid : Prop := mirrorNamesUptoRow.holds Try.pinned (OpenSpec.upto mirrorNamesSpec)

/-- 'cloakroomlaw20.MirrorKeeps', WHERE WHAT IT READS IS OF BULK AT MOST 1048576: true; the input reads as it did. -/
def mirrorKeepsUptoRow : OpenClaim := { program := "ytgajdnlkcmjieaa", sum := "ef28d765fb5f03f9c07cc3a21bed8b3e0f095a2f02e98ca17bc7a5657a9ff111", func := "cloakroom/cloakroomlaw20.MirrorKeeps", spec := "mirrorKeeps", unfollowed := true, recurses := true, apart := false, narrowed := true }
def MirrorKeepsUptoSaid : Prop := mirrorKeepsUptoRow.holds Try.pinned (OpenSpec.upto mirrorKeepsSpec)

/-- 'cloakroomlaw20.MirrorHits', WHERE WHAT IT READS IS OF BULK AT MOST 1048576: true; the input reads as it did. -/
def mirrorHitsUptoRow : OpenClaim := { program := "ytgajdnlkcmjieaa", sum := "ef28d765fb5f03f9c07cc3a21bed8b3e0f095a2f02e98ca17bc7a5657a9ff111", func := "cloakroom/cloakroomlaw20.MirrorHits", spec := "mirrorHits", unfollowed := true, recurses := true, apart := false, narrowed := true }
def MirrorHitsUptoSaid : Prop := mirrorHitsUptoRow.holds Try.pinned (OpenSpec.upto mirrorHitsSpec)

/-- 'cloakroomlaw20.MirrorStays', WHERE WHAT IT READS IS OF BULK AT MOST 1048576: true; the input reads as it did. -/
def mirrorStaysUptoRow : OpenClaim := { program := "ytgajdnlkcmjieaa", sum := "ef28d765fb5f03f9c07cc3a21bed8b3e0f095a2f02e98ca17bc7a5657a9ff111", func := "cloakroom/cloakroomlaw20.MirrorStays", spec := "mirrorStays", unfollowed := true, recurses := true, apart := false, narrowed := true }
def MirrorStaysUptoSaid : Prop := mirrorStaysUptoRow.holds Try.pinned (OpenSpec.upto mirrorStaysSpec)

end Rows
end Go.Proofs.Ytgajdnlkcmjieaa
