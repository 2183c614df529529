import Derived.Test.YtgajdnlkcmjieaaMirrorX
namespace Go.Proofs.Ytgajdnlkcmjieaa
open Go Go.Proofs Go.Proofs.PI
theorem mirrorNames_spec (H : Heap) : WC Try.prog 4 [] H fun r H' => r = .bool true ∧ H' = H := closed_true (k := 100) (by kernel_rfl) H
theorem mirrorNames_walk (H : Heap) (avs : List AV) (h : InpAll T H 9 [] avs) : WC Try.prog 4 avs H fun v _ => v = .bool true := by
  obtain rfl := h.nil
  exact (mirrorNames_spec H).mono fun r H' h => h.1
end Go.Proofs.Ytgajdnlkcmjieaa
