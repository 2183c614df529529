/-
  No cell of these rows narrows 'for every input' (looked for: loops, veiled, ifaces, maps, wideKeys, modest, calm, conditions, laid).
  DERIVED. THE GIVEN ROWS OF THIS SEAT. 4 by the template 'for every input the law returns true; each argument reads behind the call as it read before'; 0 by the template 'total and deterministic' (their statements: YtkmkhiipiflelaaTotals.lean).
  GIVEN WITH THE SEED: the statements are not yours to turn. If you find one false, say at which input.
  Laid BY PROGRAM, IN A SANDBOX (cutbox-rows.mjs): the forced cells as the released guide's own fill.sh prints them over the translation 3f96f5b541191a4c… (all of the seat's roots in one cut). By AI agents, Wed Nov 11 2026. No macro, syntax, notation, axiom, sorry.
-/
import Derived.Test.YtkmkhiipiflelaaChecked
import GoSem.Claim
import GoSem.ClaimJoined
import GoSem.ClaimMapViews
import Derived.JoinedTies
import Derived.KernelRfl
namespace Go.Proofs.Ytkmkhiipiflelaa
/- THE CELL 'sum', in the pinned program and in every row, IS THE sha256 OF THE DUMP (.gsa) THAT YtkmkhiipiflelaaProg.lean LOADS. Nothing in Lean hashes anything: it is a label: what it is worth is what the hold of that sum in a sandbox is worth. -/
noncomputable def Try.pinned : Pinned := { name := "ytkmkhiipiflelaa", sum := "3f96f5b541191a4c5c4dff934821cc5509767e6c8f874d7e3acdc7eaa381ac55", checked := Try.checked }
namespace Rows
def none {H : Type} : Left H := { results := [], args := [] }

/-- 'cloakroomlaw12.TicketCalm': WHATEVER THE INPUT: true; the input reads as it did. -/
def ticketCalmSpec : ChangeSpec := { name := "ticketCalm", fn := fun _ => fun
  | [d] => { results := [.lit (.bool true)], args := [d] }
  | _ => none }
def ticketCalmRow : OpenClaim := { program := "ytkmkhiipiflelaa", sum := "3f96f5b541191a4c5c4dff934821cc5509767e6c8f874d7e3acdc7eaa381ac55", func := "cloakroom/cloakroomlaw12.TicketCalm", spec := "ticketCalm", unfollowed := true, recurses := true, apart := false }
def TicketCalmSaid : Prop := ticketCalmRow.holds Try.pinned (OpenSpec.ofChange ticketCalmSpec)

/-- ITS FALSE NEIGHBOUR: 'it returns false'. Refute it at one input. -/
def ticketCalmWrong : ChangeSpec := { name := "ticketCalm", fn := fun _ => fun
  | [d] => { results := [.lit (.bool false)], args := [d] }
  | _ => none }
def TicketCalmWrongFalsely : Prop := ticketCalmRow.holds Try.pinned (OpenSpec.ofChange ticketCalmWrong)

/-- 'cloakroomlaw12.TicketNames': WHATEVER THE INPUT: true; the input reads as it did. -/
def ticketNamesSpec : ChangeSpec := { name := "ticketNames", fn := fun _ => fun
  | [] => { results := [.lit (.bool true)], args := [] }
  | _ => none }
def ticketNamesRow : OpenClaim := { program := "ytkmkhiipiflelaa", sum := "3f96f5b541191a4c5c4dff934821cc5509767e6c8f874d7e3acdc7eaa381ac55", func := "cloakroom/cloakroomlaw12.TicketNames", spec := "ticketNames", unfollowed := true, recurses := true, apart := false }
def TicketNamesSaid : Prop := ticketNamesRow.holds Try.pinned (OpenSpec.ofChange ticketNamesSpec)

/-- ITS FALSE NEIGHBOUR: 'it returns false'. Refute it at one input. -/
def ticketNamesWrong : ChangeSpec := { name := "ticketNames", fn := fun _ => fun
  | [] => { results := [.lit (.bool false)], args := [] }
  | _ => none }
def TicketNamesWrongFalsely : Prop := ticketNamesRow.holds Try.pinned (OpenSpec.ofChange ticketNamesWrong)

/-- 'cloakroomlaw12.TicketGoes': WHATEVER THE INPUT: true; the input reads as it did. -/
def ticketGoesSpec : ChangeSpec := { name := "ticketGoes", fn := fun _ => fun
  | [d1, d2, d3] => { results := [.lit (.bool true)], args := [d1, d2, d3] }
  | _ => none }
def ticketGoesRow : OpenClaim := { program := "ytkmkhiipiflelaa", sum := "3f96f5b541191a4c5c4dff934821cc5509767e6c8f874d7e3acdc7eaa381ac55", func := "cloakroom/cloakroomlaw12.TicketGoes", spec := "ticketGoes", unfollowed := true, recurses := true, apart := false }
def TicketGoesSaid : Prop := ticketGoesRow.holds Try.pinned (OpenSpec.ofChange ticketGoesSpec)

/-- ITS FALSE NEIGHBOUR: 'it returns false'. Refute it at one input. -/
def ticketGoesWrong : ChangeSpec := { name := "ticketGoes", fn := fun _ => fun
  | [d1, d2, d3] => { results := [.lit (.bool false)], args := [d1, d2, d3] }
  | _ => none }
def TicketGoesWrongFalsely : Prop := ticketGoesRow.holds Try.pinned (OpenSpec.ofChange ticketGoesWrong)

/-- 'cloakroomlaw12.TicketOrder': WHATEVER THE INPUT: true; the input reads as it did. -/
def ticketOrderSpec : ChangeSpec := { name := "ticketOrder", fn := fun _ => fun
  | [d1, d2, d3] => { results := [.lit (.bool true)], args := [d1, d2, d3] }
  | _ => none }
def ticketOrderRow : OpenClaim := { program := "ytkmkhiipiflelaa", sum := "3f96f5b541191a4c5c4dff934821cc5509767e6c8f874d7e3acdc7eaa381ac55", func := "cloakroom/cloakroomlaw12.TicketOrder", spec := "ticketOrder", unfollowed := true, recurses := true, apart := false }
def TicketOrderSaid : Prop := ticketOrderRow.holds Try.pinned (OpenSpec.ofChange ticketOrderSpec)

/-- ITS FALSE NEIGHBOUR: 'it returns false'. Refute it at one input. -/
def ticketOrderWrong : ChangeSpec := { name := "ticketOrder", fn := fun _ => fun
  | [d1, d2, d3] => { results := [.lit (.bool false)], args := [d1, d2, d3] }
  | _ => none }
def TicketOrderWrongFalsely : Prop := ticketOrderRow.holds Try.pinned (OpenSpec.ofChange ticketOrderWrong)

/- THE SECOND FORM. 'bulk': how many values and letters a reading holds, each counted each time it is reached (what is shared counts as often as it is met; a slice's spare places count too). A statement '..UptoSaid' is the law's where the arguments, and the package variables that the reading takes, are together of bulk at most 1048576: NARROWER than '..Said'. Prove '..Said' where nothing that the law and all that it calls make is longer than what came in: it says more and counts as full. Else prove '..UptoSaid'. A law counts once. -/
mutual
def uptoBulk {H : Type} : DataW H → Nat
  | .lit (.string bytes) => bytes.length + 1
  | .lit _ => 1
  | .nil => 1
  | .ptr d => uptoBulk d + 1
  | .slice elems spare => uptoBulkAll elems + uptoBulkAll spare + 1
  | .agg parts => uptoBulkAll parts + 1
  | .iface _ d => uptoBulk d + 1
  | .map entries => uptoBulkEntries entries + 1
  | .held _ => 1
def uptoBulkAll {H : Type} : List (DataW H) → Nat
  | [] => 0
  | d :: r => uptoBulk d + uptoBulkAll r
def uptoBulkEntries {H : Type} : List (Lit × DataW H) → Nat
  | [] => 0
  | x :: r => uptoBulkEntry x + uptoBulkEntries r
def uptoBulkEntry {H : Type} : Lit × DataW H → Nat
  | (.string bytes, d) => bytes.length + uptoBulk d + 1
  | (_, d) => uptoBulk d + 1
 end
def uptoSmall : (H : Type) → List (DataW H) → Bool := fun _ ds => decide (uptoBulkAll ds ≤ 1048576)
def OpenSpec.upto (s : _root_.Go.ChangeSpec) : _root_.Go.OpenSpec := { _root_.Go.OpenSpec.ofChange s with cond := some uptoSmall }

/-- 'cloakroomlaw12.TicketCalm', WHERE WHAT IT READS IS OF BULK AT MOST 1048576: true; the input reads as it did. -/
def ticketCalmUptoRow : OpenClaim := { program := "ytkmkhiipiflelaa", sum := "3f96f5b541191a4c5c4dff934821cc5509767e6c8f874d7e3acdc7eaa381ac55", func := "cloakroom/cloakroomlaw12.TicketCalm", spec := "ticketCalm", unfollowed := true, recurses := true, apart := false, narrowed := true }
def TicketCalmUptoSaid : Prop := ticketCalmUptoRow.holds Try.pinned (OpenSpec.upto ticketCalmSpec)

/-- 'cloakroomlaw12.TicketNames', WHERE WHAT IT READS IS OF BULK AT MOST 1048576: true; the input reads as it did. -/
def ticketNamesUptoRow : OpenClaim := { program := "ytkmkhiipiflelaa", sum := "3f96f5b541191a4c5c4dff934821cc5509767e6c8f874d7e3acdc7eaa381ac55", func := "cloakroom/cloakroomlaw12.TicketNames", spec := "ticketNames", unfollowed := true, recurses := true, apart := false, narrowed := true }
def TicketNamesUptoSaid : Prop := ticketNamesUptoRow.holds Try.pinned (OpenSpec.upto ticketNamesSpec)

/-- 'cloakroomlaw12.TicketGoes', WHERE WHAT IT READS IS OF BULK AT MOST 1048576: true; the input reads as it did. -/
def ticketGoesUptoRow : OpenClaim := { program := "ytkmkhiipiflelaa", sum := "3f96f5b541191a4c5c4dff934821cc5509767e6c8f874d7e3acdc7eaa381ac55", func := "cloakroom/cloakroomlaw12.TicketGoes", spec := "ticketGoes", unfollowed := true, recurses := true, apart := false, narrowed := true }
def TicketGoesUptoSaid : Prop := ticketGoesUptoRow.holds Try.pinned (OpenSpec.upto ticketGoesSpec)

/-- 'cloakroomlaw12.TicketOrder', WHERE WHAT IT READS IS OF BULK AT MOST 1048576: true; the input reads as it did. -/
def ticketOrderUptoRow : OpenClaim := { program := "ytkmkhiipiflelaa", sum := "3f96f5b541191a4c5c4dff934821cc5509767e6c8f874d7e3acdc7eaa381ac55", func := "cloakroom/cloakroomlaw12.TicketOrder", spec := "ticketOrder", unfollowed := true, recurses := true, apart := false, narrowed := true }
def TicketOrderUptoSaid : Prop := ticketOrderUptoRow.holds Try.pinned (OpenSpec.upto ticketOrderSpec)

end Rows
end Go.Proofs.Ytkmkhiipiflelaa
