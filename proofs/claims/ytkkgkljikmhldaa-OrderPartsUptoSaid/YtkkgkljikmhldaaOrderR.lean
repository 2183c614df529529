import Derived.Test.YtkkgkljikmhldaaOrderQ
set_option linter.unusedSimpArgs false
set_option linter.unusedVariables false
set_option maxRecDepth 100000
set_option maxHeartbeats 2000000
namespace Go.Proofs.Ytkkgkljikmhldaa
open Go Go.Proofs Go.Proofs.PI
theorem shards_any (c : Cmd) (n : Int) (hn : c.keys.length ≤ 140737488355328) (H : Heap) : WC Try.prog 7 [c.av, .int .i64 n] H fun r H' => r = .tup [(Enc.int .i64).lst (shL c n), .int .i64 (shE c n)] ∧ H' = H := by
  cases hc : cmdB c with
  | true =>
    obtain ⟨h1, h2⟩ := cmdB_short hc
    exact shards_spec c n (by omega) (fun k hk => by have := h2 k hk; omega) H
  | false =>
    refine WC_val fun K hK => ?_
    have hmay := fun J => ordMay_spec c hn J
    have h0 : shE c n = 100 := by simp [shE, hc]
    have h1 : shL c n = [] := if_neg (by rw [h0]; decide)
    rw [h0, h1] at hK
    rw [hc] at hmay
    refine WC_of_body hT Try.func7 rfl (by simp [Try.f7]) (by simp [Try.f7]) (wx_sound hT _ ?_)
    simp only [Try.f7]
    repeat' (first | simp only [go_sem, Nat.reduceLT, Nat.reduceEqDiff, Nat.reduceAdd, Nat.reduceMul, Nat.reduceSub, Nat.reduceLeDiff, Int.reduceToNat, Int.reduceNeg, Int.reduceLT, Int.reduceLE, Int.reduceEq, reduceCtorEq, Int.natCast_zero, Int.natCast_one, Int.cast_ofNat_Int, Bool.not_not, false_eq_decide, true_eq_decide, hread0, hreadk, read_cons0, read_consk, astore_h0, astore_hk, hget0, hgetk, hset0, hsetk, hlen, hcat, Nat.add_assoc, Nat.add_zero, Nat.zero_add, List.length_append, and_true, true_and, AV.flat, Cmd.av, *, -hK, -hmay, -h0, -h1] | refine WC.call (hmay _) ?_ | with_reducible refine IfB_dec (fun h => ?_) (fun h => ?_) | with_reducible refine Guard_dec (fun h => ?_) (fun h => ?_) | with_reducible refine Guard_ndec (fun h => ?_) (fun h => ?_) | with_reducible refine Guard_not (fun h => ?_) (fun h => ?_) | with_reducible refine IfB_ndec (fun h => ?_) (fun h => ?_) | with_reducible refine IfB_not (fun h => ?_) (fun h => ?_) | with_reducible refine Guard_split (fun h => ?_) (fun h => ?_) | with_reducible refine IfB_split (fun h => ?_) (fun h => ?_))
    exact hK _ _ (Thaw.tup_row ⟨.nils, .int _ _, trivial⟩) (Keep.app _ _ _)
theorem part_spec (c : Cmd) (sh n : Int) (hn : c.keys.length ≤ 1000) (hks : ∀ k ∈ c.keys, k.length ≤ 100000) (H : Heap) : WC Try.prog 9 [c.av, .int .i64 sh, .int .i64 n] H fun r H' => r = .tup [(partL c sh n).av, .int .i64 (partE c sh n)] ∧ H' = H :=
  WC_froze (Q := fun r => r = _) ((part_own c sh n hn hks H).mono fun r H' ⟨a, h1, ⟨v, h2, h3⟩, h4⟩ => ⟨_, by rw [h1, h2]; exact Thaw.tup_row ⟨Thaw.agg_row ⟨.int _ _, .int _ _, h3.thaw (by decide), .str _, .int _ _, .int _ _, .int _ _, .int _ _, trivial⟩, .int _ _, trivial⟩, h4, rfl⟩)
end Go.Proofs.Ytkkgkljikmhldaa
