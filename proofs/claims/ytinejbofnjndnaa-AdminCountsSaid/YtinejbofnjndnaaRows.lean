/-
  No cell of these rows narrows 'for every input' (looked for: loops, veiled, ifaces, maps, wideKeys, modest, calm, conditions, laid).
  DERIVED. THE GIVEN ROWS OF THIS SEAT. 4 by the template 'for every input the law returns true; each argument reads behind the call as it read before'; 0 by the template 'total and deterministic' (their statements: YtinejbofnjndnaaTotals.lean).
  GIVEN WITH THE SEED: the statements are not yours to turn. If you find one false, say at which input.
  Laid BY PROGRAM, IN A SANDBOX (cutbox-rows.mjs): the forced cells as the released guide's own fill.sh prints them over the translation 9ecff2cae8829a9d… (all of the seat's roots in one cut). By AI agents, Wed Nov 11 2026. No macro, syntax, notation, axiom, sorry.
-/
import Derived.Test.YtinejbofnjndnaaChecked
import GoSem.Claim
import GoSem.ClaimJoined
import GoSem.ClaimMapViews
import Derived.JoinedTies
import Derived.KernelRfl
namespace Go.Proofs.Ytinejbofnjndnaa
/- THE CELL 'sum', in the pinned program and in every row, IS THE sha256 OF THE DUMP (.gsa) THAT YtinejbofnjndnaaProg.lean LOADS. Nothing in Lean hashes anything: it is a label: what it is worth is what the hold of that sum in a sandbox is worth. -/
noncomputable def Try.pinned : Pinned := { name := "ytinejbofnjndnaa", sum := "9ecff2cae8829a9dbfd6b31cae039ccd23d55e5ede8023801f20add7c87f4f98", checked := Try.checked }
namespace Rows
def none {H : Type} : Left H := { results := [], args := [] }

/-- 'cloakroomlaw27.AdminGoes': WHATEVER THE INPUT: true; the input reads as it did. -/
def adminGoesSpec : ChangeSpec := { name := "adminGoes", fn := fun _ => fun
  | [d1, d2, d3, d4] => { results := [.lit (.bool true)], args := [d1, d2, d3, d4] }
  | _ => none }
def adminGoesRow : OpenClaim := { program := "ytinejbofnjndnaa", sum := "9ecff2cae8829a9dbfd6b31cae039ccd23d55e5ede8023801f20add7c87f4f98", func := "cloakroom/cloakroomlaw27.AdminGoes", spec := "adminGoes", unfollowed := true, recurses := true, apart := false }
def AdminGoesSaid : Prop := adminGoesRow.holds Try.pinned (OpenSpec.ofChange adminGoesSpec)

/-- ITS FALSE NEIGHBOUR: 'it returns false'. Refute it at one input. -/
def adminGoesWrong : ChangeSpec := { name := "adminGoes", fn := fun _ => fun
  | [d1, d2, d3, d4] => { results := [.lit (.bool false)], args := [d1, d2, d3, d4] }
  | _ => none }
def AdminGoesWrongFalsely : Prop := adminGoesRow.holds Try.pinned (OpenSpec.ofChange adminGoesWrong)

/-- 'cloakroomlaw27.AdminTurns': WHATEVER THE INPUT: true; the input reads as it did. -/
def adminTurnsSpec : ChangeSpec := { name := "adminTurns", fn := fun _ => fun
  | [d1, d2, d3, d4, d5, d6, d7] => { results := [.lit (.bool true)], args := [d1, d2, d3, d4, d5, d6, d7] }
  | _ => none }
def adminTurnsRow : OpenClaim := { program := "ytinejbofnjndnaa", sum := "9ecff2cae8829a9dbfd6b31cae039ccd23d55e5ede8023801f20add7c87f4f98", func := "cloakroom/cloakroomlaw27.AdminTurns", spec := "adminTurns", unfollowed := true, recurses := true, apart := false }
def AdminTurnsSaid : Prop := adminTurnsRow.holds Try.pinned (OpenSpec.ofChange adminTurnsSpec)

/-- ITS FALSE NEIGHBOUR: 'it returns false'. Refute it at one input. -/
def adminTurnsWrong : ChangeSpec := { name := "adminTurns", fn := fun _ => fun
  | [d1, d2, d3, d4, d5, d6, d7] => { results := [.lit (.bool false)], args := [d1, d2, d3, d4, d5, d6, d7] }
  | _ => none }
def AdminTurnsWrongFalsely : Prop := adminTurnsRow.holds Try.pinned (OpenSpec.ofChange adminTurnsWrong)

/-- 'cloakroomlaw27.AdminNames': WHATEVER THE INPUT: true; the input reads as it did. -/
def adminNamesSpec : ChangeSpec := { name := "adminNames", fn := fun _ => fun
  | [] => { results := [.lit (.bool true)], args := [] }
  | _ => none }
def adminNamesRow : OpenClaim := { program := "ytinejbofnjndnaa", sum := "9ecff2cae8829a9dbfd6b31cae039ccd23d55e5ede8023801f20add7c87f4f98", func := "cloakroom/cloakroomlaw27.AdminNames", spec := "adminNames", unfollowed := true, recurses := true, apart := false }
def AdminNamesSaid : Prop := adminNamesRow.holds Try.pinned (OpenSpec.ofChange adminNamesSpec)

/-- ITS FALSE NEIGHBOUR: 'it returns false'. Refute it at one input. -/
def adminNamesWrong : ChangeSpec := { name := "adminNames", fn := fun _ => fun
  | [] => { results := [.lit (.bool false)], args := [] }
  | _ => none }
def AdminNamesWrongFalsely : Prop := adminNamesRow.holds Try.pinned (OpenSpec.ofChange adminNamesWrong)

/-- 'cloakroomlaw27.AdminCounts': WHATEVER THE INPUT: true; the input reads as it did. -/
def adminCountsSpec : ChangeSpec := { name := "adminCounts", fn := fun _ => fun
  | [d1, d2, d3, d4, d5] => { results := [.lit (.bool true)], args := [d1, d2, d3, d4, d5] }
  | _ => none }
def adminCountsRow : OpenClaim := { program := "ytinejbofnjndnaa", sum := "9ecff2cae8829a9dbfd6b31cae039ccd23d55e5ede8023801f20add7c87f4f98", func := "cloakroom/cloakroomlaw27.AdminCounts", spec := "adminCounts", unfollowed := true, recurses := true, apart := false }
def AdminCountsSaid : Prop := adminCountsRow.holds Try.pinned (OpenSpec.ofChange adminCountsSpec)

/-- ITS FALSE NEIGHBOUR: 'it returns false'. Refute it at one input. -/
def adminCountsWrong : ChangeSpec := { name := "adminCounts", fn := fun _ => fun
  | [d1, d2, d3, d4, d5] => { results := [.lit (.bool false)], args := [d1, d2, d3, d4, d5] }
  | _ => none }
def AdminCountsWrongFalsely : Prop := adminCountsRow.holds Try.pinned (OpenSpec.ofChange adminCountsWrong)

/- THE SECOND FORM. 'bulk': how many values and letters a reading holds, each counted each time it is reached (what is shared counts as often as it is met; a slice's spare places count too). A statement '..UptoSaid' is the law's where the arguments, and the package variables that the reading takes, are together of bulk at most 1048576: NARROWER than '..Said'. Prove '..Said' where nothing that the law and all that it calls make is longer than what came in: it says more and counts as full. Else prove '..UptoSaid'. A law counts once. -/
mutual
def uptoBulk {H : Type} : DataW H → Nat
  | .lit (.string bytes) => bytes.length + 1
  | .lit _ => 1
  | .nil => 1
  | .ptr d => uptoBulk d + 1
  | .slice elems spare => uptoBulkAll elems + uptoBulkAll spare + 1
  | .agg parts => uptoBulkAll parts + 1
  | .iface _ d => uptoBulk d + 1
  | .map entries => uptoBulkEntries entries + 1
  | .held _ => 1
def uptoBulkAll {H : Type} : List (DataW H) → Nat
  | [] => 0
  | d :: r => uptoBulk d + uptoBulkAll r
def uptoBulkEntries {H : Type} : List (Lit × DataW H) → Nat
  | [] => 0
  | x :: r => uptoBulkEntry x + uptoBulkEntries r
def uptoBulkEntry {H : Type} : Lit × DataW H → Nat
  | (.string bytes, d) => bytes.length + uptoBulk d + 1
  | (_, d) => uptoBulk d + 1
 end
def uptoSmall : (H : Type) → List (DataW H) → Bool := fun _ ds => decide (uptoBulkAll ds ≤ 1048576)
def OpenSpec.upto (s : _root_.Go.ChangeSpec) : _root_.Go.OpenSpec := { _root_.Go.OpenSpec.ofChange s with cond := some uptoSmall }

/-- 'cloakroomlaw27.AdminGoes', WHERE WHAT IT READS IS OF BULK AT MOST 1048576: true; the input reads as it did. -/
def adminGoesUptoRow : OpenClaim := { program := "ytinejbofnjndnaa", sum := "9ecff2cae8829a9dbfd6b31cae039ccd23d55e5ede8023801f20add7c87f4f98", func := "cloakroom/cloakroomlaw27.AdminGoes", spec := "adminGoes", unfollowed := true, recurses := true, apart := false, narrowed := true }
def AdminGoesUptoSaid : Prop := adminGoesUptoRow.holds Try.pinned (OpenSpec.upto adminGoesSpec)

/-- 'cloakroomlaw27.AdminTurns', WHERE WHAT IT READS IS OF BULK AT MOST 1048576: true; the input reads as it did. -/
def adminTurnsUptoRow : OpenClaim := { program := "ytinejbofnjndnaa", sum := "9ecff2cae8829a9dbfd6b31cae039ccd23d55e5ede8023801f20add7c87f4f98", func := "cloakroom/cloakroomlaw27.AdminTurns", spec := "adminTurns", unfollowed := true, recurses := true, apart := false, narrowed := true }
def AdminTurnsUptoSaid : Prop := adminTurnsUptoRow.holds Try.pinned (OpenSpec.upto adminTurnsSpec)

/-- 'cloakroomlaw27.AdminNames', WHERE WHAT IT READS IS OF BULK AT MOST 1048576: true; the input reads as it did. -/
def adminNamesUptoRow : OpenClaim := { program := "ytinejbofnjndnaa", sum := "9ecff2cae8829a9dbfd6b31cae039ccd23d55e5ede8023801f20add7c87f4f98", func := "cloakroom/cloakroomlaw27.AdminNames", spec := "adminNames", unfollowed := true, recurses := true, apart := false, narrowed := true }
def AdminNamesUptoSaid : Prop := adminNamesUptoRow.holds Try.pinned (OpenSpec.upto adminNamesSpec)

/-- 'cloakroomlaw27.AdminCounts', WHERE WHAT IT READS IS OF BULK AT MOST 1048576: true; the input reads as it did. -/
def adminCountsUptoRow : OpenClaim := { program := "ytinejbofnjndnaa", sum := "9ecff2cae8829a9dbfd6b31cae039ccd23d55e5ede8023801f20add7c87f4f98", func := "cloakroom/cloakroomlaw27.AdminCounts", spec := "adminCounts", unfollowed := true, recurses := true, apart := false, narrowed := true }
def AdminCountsUptoSaid : Prop := adminCountsUptoRow.holds Try.pinned (OpenSpec.upto adminCountsSpec)

end Rows
end Go.Proofs.Ytinejbofnjndnaa
