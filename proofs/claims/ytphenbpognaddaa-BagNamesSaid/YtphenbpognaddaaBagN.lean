import Derived.Test.YtphenbpognaddaaBagX
namespace Go.Proofs.Ytphenbpognaddaa
open Go Go.Proofs Go.Proofs.PI
theorem alive_spec (H : Heap) : WC Try.prog 19 [] H fun r H' => r = .bool true ∧ H' = H := closed_true (k := 100) (by kernel_rfl) H
theorem bagNames_spec (H : Heap) : WC Try.prog 6 [] H fun r H' => r = .bool true ∧ H' = H := closed_true (k := 100) (by kernel_rfl) H
theorem bagNames_walk (H : Heap) (avs : List AV) (h : InpAll T H 9 [] avs) : WC Try.prog 6 avs H fun v _ => v = .bool true := by
  obtain rfl := h.nil
  exact (bagNames_spec H).mono fun r H' h => h.1
end Go.Proofs.Ytphenbpognaddaa
