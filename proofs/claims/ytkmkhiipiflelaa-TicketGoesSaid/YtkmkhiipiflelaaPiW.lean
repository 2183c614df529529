import Derived.Test.YtkmkhiipiflelaaPiV
/-! PI, part W: one field of an element of an own slice is written. -/
set_option linter.unusedVariables false
set_option linter.unusedSimpArgs false
namespace Go.Proofs.PI
open Go.RowKit
section
variable {α : Type} {E : Enc α} {T : TypeId → Option TD} {H H' : Heap} {t e te : TypeId} {xs : List α} {m : Nat} {v : AV}
end
end Go.Proofs.PI

