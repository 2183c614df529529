import Derived.Test.YtkmkhiipiflelaaTkR2
import Derived.Test.YtkmkhiipiflelaaTkR3
set_option linter.unusedSimpArgs false
set_option linter.unusedVariables false
set_option maxRecDepth 100000
set_option maxHeartbeats 40000000
namespace Go.Proofs.Ytkmkhiipiflelaa
open Go Go.Proofs Go.Proofs.PI
theorem kinds (k : Int) (h : 1 ≤ k ∧ k ≤ 11) : (¬ 2 ≤ k ∧ k ≤ 5 ∧ ¬ k = 5 ∧ ¬ k = 6 ∧ ¬ k = 7 ∧ ¬ k = 8 ∧ ¬ k = 9) ∨ (2 ≤ k ∧ k ≤ 5 ∧ ¬ k = 5 ∧ ¬ k = 6 ∧ ¬ k = 7 ∧ ¬ k = 8 ∧ ¬ k = 9) ∨ k = 5 ∨ k = 6 ∨ k = 7 ∨ k = 8 ∨ k = 9 ∨ (2 ≤ k ∧ ¬ k ≤ 5 ∧ ¬ k = 5 ∧ ¬ k = 6 ∧ ¬ k = 7 ∧ ¬ k = 8 ∧ ¬ k = 9) := by omega
theorem refMay_bad (c : Cmd) (hn : c.keys.length ≤ 140737488355328) (hk : 1 ≤ c.kind ∧ c.kind ≤ 11) (H : Heap) (hq : keysB c.kind c.keys = false): WC Try.prog 55 [c.av] H fun r H' => r = .bool (cmdB c) ∧ H' = H := by
  refine WC_val fun K hK => ?_
  have hks := fun J => refKeys_spec c hn J
  have hcm : cmdB c = (decide (1 ≤ c.kind ∧ c.kind ≤ 11 ∧ 0 ≤ c.ten ∧ c.ten < 4) && keysB c.kind c.keys && restB c) := rfl
  have hv : (c.val = []) = (c.val.length = 0) := by rw [List.length_eq_zero_iff]
  rw [hq] at hks hcm
  refine WC_of_body hT Try.func55 rfl (by simp [Try.f55]) (by simp [Try.f55]) (wx_sound hT _ ?_)
  simp only [Try.f55]
  have k1 : ¬ c.kind < 1 := by omega
  have k2 : ¬ 11 < c.kind := by omega
  repeat' (first | simp only [go_sem, Nat.reduceLT, Nat.reduceEqDiff, Nat.reduceAdd, Nat.reduceMul, Nat.reduceSub, Nat.reduceLeDiff, Int.reduceToNat, Int.reduceNeg, Int.reduceLT, Int.reduceLE, Int.reduceEq, reduceCtorEq, Int.natCast_zero, Int.natCast_one, Int.cast_ofNat_Int, Bool.not_not, false_eq_decide, true_eq_decide, hread0, hreadk, read_cons0, read_consk, astore_h0, astore_hk, hget0, hgetk, hset0, hsetk, hlen, hcat, Nat.add_assoc, Nat.add_zero, Nat.zero_add, List.length_append, and_true, true_and, AV.flat, Cmd.av, *, -hK, -hks, -hcm, -hk] | refine WC.call (hks _) ?_ | with_reducible refine IfB_dec (fun h => ?_) (fun h => ?_) | with_reducible refine Guard_dec (fun h => ?_) (fun h => ?_) | with_reducible refine Guard_ndec (fun h => ?_) (fun h => ?_) | with_reducible refine Guard_not (fun h => ?_) (fun h => ?_) | with_reducible refine IfB_ndec (fun h => ?_) (fun h => ?_) | with_reducible refine IfB_not (fun h => ?_) (fun h => ?_) | with_reducible refine Guard_split (fun h => ?_) (fun h => ?_) | with_reducible refine IfB_split (fun h => ?_) (fun h => ?_))
  all_goals
    have h1 : cmdB c = false := by rw [hcm]; simp
    exact hK _ _ (Thaw.of_eq (by rw [h1]) rfl) (Keep.app _ _ _)
theorem refMay_spec (c : Cmd) (hn : c.keys.length ≤ 140737488355328) (H : Heap) : WC Try.prog 55 [c.av] H fun r H' => r = .bool (cmdB c) ∧ H' = H := by
  by_cases hk : 1 ≤ c.kind ∧ c.kind ≤ 11
  · cases hq : keysB c.kind c.keys with
    | false => exact refMay_bad c hn hk H hq
    | true =>
      rcases kinds c.kind hk with h | h | h | h | h | h | h | h
      · exact refMay_goodA c.kind c.ten c.keys c.val c.flags c.for_ c.uniq c.by_ hn hk hq (.inl h) H
      · exact refMay_goodA c.kind c.ten c.keys c.val c.flags c.for_ c.uniq c.by_ hn hk hq (.inr (.inl h)) H
      · exact refMay_goodA c.kind c.ten c.keys c.val c.flags c.for_ c.uniq c.by_ hn hk hq (.inr (.inr (.inl h))) H
      · exact refMay_goodA c.kind c.ten c.keys c.val c.flags c.for_ c.uniq c.by_ hn hk hq (.inr (.inr (.inr h))) H
      · exact refMay_goodB c.kind c.ten c.keys c.val c.flags c.for_ c.uniq c.by_ hn hk hq (.inl h) H
      · exact refMay_goodB c.kind c.ten c.keys c.val c.flags c.for_ c.uniq c.by_ hn hk hq (.inr (.inl h)) H
      · exact refMay_goodB c.kind c.ten c.keys c.val c.flags c.for_ c.uniq c.by_ hn hk hq (.inr (.inr (.inl h))) H
      · exact refMay_goodB c.kind c.ten c.keys c.val c.flags c.for_ c.uniq c.by_ hn hk hq (.inr (.inr (.inr h))) H
  · refine WC_val fun K hK => ?_
    have h1 : cmdB c = false := by rw [cmdB, decide_eq_false (by omega)]; rfl
    refine WC_of_body hT Try.func55 rfl (by simp [Try.f55]) (by simp [Try.f55]) (wx_sound hT _ ?_)
    simp only [Try.f55]
    by_cases h2 : c.kind < 1
    · repeat' (first | simp only [go_sem, Nat.reduceLT, Nat.reduceEqDiff, Nat.reduceAdd, Nat.reduceMul, Nat.reduceSub, Nat.reduceLeDiff, Int.reduceToNat, Int.reduceNeg, Int.reduceLT, Int.reduceLE, Int.reduceEq, reduceCtorEq, Int.natCast_zero, Int.natCast_one, Int.cast_ofNat_Int, Bool.not_not, false_eq_decide, true_eq_decide, hread0, hreadk, read_cons0, read_consk, astore_h0, astore_hk, hget0, hgetk, hset0, hsetk, hlen, hcat, Nat.add_assoc, Nat.add_zero, Nat.zero_add, List.length_append, and_true, true_and, AV.flat, Cmd.av, *, -hK, -hk, -h1] | with_reducible refine IfB_dec (fun h => ?_) (fun h => ?_) | with_reducible refine Guard_dec (fun h => ?_) (fun h => ?_) | with_reducible refine Guard_ndec (fun h => ?_) (fun h => ?_) | with_reducible refine Guard_not (fun h => ?_) (fun h => ?_) | with_reducible refine IfB_ndec (fun h => ?_) (fun h => ?_) | with_reducible refine IfB_not (fun h => ?_) (fun h => ?_) | with_reducible refine Guard_split (fun h => ?_) (fun h => ?_) | with_reducible refine IfB_split (fun h => ?_) (fun h => ?_))
      exact hK _ _ (Thaw.of_eq (by rw [h1]) rfl) (Keep.app _ _ _)
    · have h3 : 11 < c.kind := by omega
      repeat' (first | simp only [go_sem, Nat.reduceLT, Nat.reduceEqDiff, Nat.reduceAdd, Nat.reduceMul, Nat.reduceSub, Nat.reduceLeDiff, Int.reduceToNat, Int.reduceNeg, Int.reduceLT, Int.reduceLE, Int.reduceEq, reduceCtorEq, Int.natCast_zero, Int.natCast_one, Int.cast_ofNat_Int, Bool.not_not, false_eq_decide, true_eq_decide, hread0, hreadk, read_cons0, read_consk, astore_h0, astore_hk, hget0, hgetk, hset0, hsetk, hlen, hcat, Nat.add_assoc, Nat.add_zero, Nat.zero_add, List.length_append, and_true, true_and, AV.flat, Cmd.av, *, -hK, -hk, -h1] | with_reducible refine IfB_dec (fun h => ?_) (fun h => ?_) | with_reducible refine Guard_dec (fun h => ?_) (fun h => ?_) | with_reducible refine Guard_ndec (fun h => ?_) (fun h => ?_) | with_reducible refine Guard_not (fun h => ?_) (fun h => ?_) | with_reducible refine IfB_ndec (fun h => ?_) (fun h => ?_) | with_reducible refine IfB_not (fun h => ?_) (fun h => ?_) | with_reducible refine Guard_split (fun h => ?_) (fun h => ?_) | with_reducible refine IfB_split (fun h => ?_) (fun h => ?_))
      exact hK _ _ (Thaw.of_eq (by rw [h1]) rfl) (Keep.app _ _ _)
theorem refOf_spec (c : Cmd) (k : List UInt8) (n : Int) (hk : k.length ≤ 100000) (H : Heap) : WC Try.prog 67 [c.av, .str k, .int .i64 n] H fun r H' => r = .int .i64 (shardL c.ten k n).1 ∧ H' = H := by
  refine WC_val fun K hK => ?_
  refine WC_of_body hT Try.func67 rfl (by simp [Try.f67]) (by simp [Try.f67]) (wx_sound hT _ ?_)
  simp only [Try.f67]
  repeat' (first | simp only [go_sem, Nat.reduceLT, Nat.reduceEqDiff, Nat.reduceAdd, Nat.reduceMul, Nat.reduceSub, Nat.reduceLeDiff, Int.reduceToNat, Int.reduceNeg, Int.reduceLT, Int.reduceLE, Int.reduceEq, reduceCtorEq, Int.natCast_zero, Int.natCast_one, Int.cast_ofNat_Int, Bool.not_not, false_eq_decide, true_eq_decide, hread0, hreadk, read_cons0, read_consk, astore_h0, astore_hk, hget0, hgetk, hset0, hsetk, hlen, hcat, Nat.add_assoc, Nat.add_zero, Nat.zero_add, List.length_append, and_true, true_and, AV.flat, Cmd.av, *, -hK] | refine WC.call (refShardP c.ten k n hk _) ?_ | with_reducible refine IfB_dec (fun h => ?_) (fun h => ?_) | with_reducible refine Guard_dec (fun h => ?_) (fun h => ?_) | with_reducible refine Guard_ndec (fun h => ?_) (fun h => ?_) | with_reducible refine Guard_not (fun h => ?_) (fun h => ?_) | with_reducible refine IfB_ndec (fun h => ?_) (fun h => ?_) | with_reducible refine IfB_not (fun h => ?_) (fun h => ?_) | with_reducible refine Guard_split (fun h => ?_) (fun h => ?_) | with_reducible refine IfB_split (fun h => ?_) (fun h => ?_))
  exact hK _ _ (.int _ _) (Keep.app _ _ _)
end Go.Proofs.Ytkmkhiipiflelaa

