import Derived.Test.YtkmkhiipiflelaaTicketX
set_option maxRecDepth 100000
namespace Go.Proofs.Ytkmkhiipiflelaa
open Go Go.Proofs Go.Proofs.PI
theorem alive_spec (H : Heap) : WC Try.prog 7 [] H fun r H' => r = .bool true ∧ H' = H := closed_true (k := 100) (by kernel_rfl) H
end Go.Proofs.Ytkmkhiipiflelaa
