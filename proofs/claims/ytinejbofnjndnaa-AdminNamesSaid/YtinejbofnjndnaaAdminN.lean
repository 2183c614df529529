import Derived.Test.YtinejbofnjndnaaAdminX
namespace Go.Proofs.Ytinejbofnjndnaa
open Go Go.Proofs Go.Proofs.PI
theorem adminNames_spec (H : Heap) : WC Try.prog 5 [] H fun r H' => r = .bool true ∧ H' = H := closed_true (k := 100) (by kernel_rfl) H
theorem adminNames_walk (H : Heap) (avs : List AV) (h : InpAll T H 9 [] avs) : WC Try.prog 5 avs H fun v _ => v = .bool true := by
  obtain rfl := h.nil
  exact (adminNames_spec H).mono fun r H' h => h.1
end Go.Proofs.Ytinejbofnjndnaa
