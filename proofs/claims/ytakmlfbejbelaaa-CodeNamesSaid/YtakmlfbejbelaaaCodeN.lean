import Derived.Test.YtakmlfbejbelaaaCodeX
namespace Go.Proofs.Ytakmlfbejbelaaa
open Go Go.Proofs Go.Proofs.PI
theorem codeNames_spec (H : Heap) : WC Try.prog 11 [] H fun r H' => r = .bool true ∧ H' = H := closed_true (k := 100) (by kernel_rfl) H
theorem codeNames_walk (H : Heap) (avs : List AV) (h : InpAll T H 9 [] avs) : WC Try.prog 11 avs H fun v _ => v = .bool true := by
  obtain rfl := h.nil
  exact (codeNames_spec H).mono fun r H' h => h.1
end Go.Proofs.Ytakmlfbejbelaaa
