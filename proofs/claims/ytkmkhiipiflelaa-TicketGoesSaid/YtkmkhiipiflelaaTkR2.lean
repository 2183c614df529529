import Derived.Test.YtkmkhiipiflelaaTkR1
set_option linter.unusedSimpArgs false
set_option linter.unusedVariables false
set_option maxRecDepth 100000
set_option maxHeartbeats 40000000
namespace Go.Proofs.Ytkmkhiipiflelaa
open Go Go.Proofs Go.Proofs.PI
theorem refMay_goodA (kind ten : Int) (keys : List (List UInt8)) (val : List UInt8) (fl fo un by' : Int) (hn : keys.length ≤ 140737488355328) (hk : 1 ≤ kind ∧ kind ≤ 11) (hq : keysB kind keys = true) (hcl : (¬ 2 ≤ kind ∧ kind ≤ 5 ∧ ¬ kind = 5 ∧ ¬ kind = 6 ∧ ¬ kind = 7 ∧ ¬ kind = 8 ∧ ¬ kind = 9) ∨ (2 ≤ kind ∧ kind ≤ 5 ∧ ¬ kind = 5 ∧ ¬ kind = 6 ∧ ¬ kind = 7 ∧ ¬ kind = 8 ∧ ¬ kind = 9) ∨ kind = 5 ∨ kind = 6) (H : Heap) :
    WC Try.prog 55 [Cmd.av ⟨kind, ten, keys, val, fl, fo, un, by'⟩] H fun r H' => r = .bool (cmdB ⟨kind, ten, keys, val, fl, fo, un, by'⟩) ∧ H' = H := by
  refine WC_val fun K hK => ?_
  have hks := fun J => refKeys_spec ⟨kind, ten, keys, val, fl, fo, un, by'⟩ hn J
  have hcm : cmdB ⟨kind, ten, keys, val, fl, fo, un, by'⟩ = (decide (1 ≤ kind ∧ kind ≤ 11 ∧ 0 ≤ ten ∧ ten < 4) && keysB kind keys && restB ⟨kind, ten, keys, val, fl, fo, un, by'⟩) := rfl
  have hv : (val = []) = (val.length = 0) := by rw [List.length_eq_zero_iff]
  simp only at hks
  rw [hq] at hks hcm
  unfold restB at hcm
  simp only at hcm
  unfold Cmd.av at hks ⊢
  simp only at hks ⊢
  generalize cmdB ⟨kind, ten, keys, val, fl, fo, un, by'⟩ = cb at *
  clear hq
  refine WC_of_body hT Try.func55 rfl (by simp [Try.f55]) (by simp [Try.f55]) (wx_sound hT _ ?_)
  simp only [Try.f55]
  have k1 : ¬ kind < 1 := by omega
  have k2 : ¬ 11 < kind := by omega
  rcases hcl with ⟨k3, k4, k5, k6, k7, k8, k9⟩ | ⟨k3, k4, k5, k6, k7, k8, k9⟩ | rfl | rfl
  all_goals
    repeat' (first | simp only [go_sem, Nat.reduceLT, Nat.reduceEqDiff, Nat.reduceAdd, Nat.reduceMul, Nat.reduceSub, Nat.reduceLeDiff, Int.reduceToNat, Int.reduceNeg, Int.reduceLT, Int.reduceLE, Int.reduceEq, reduceCtorEq, Int.natCast_zero, Int.natCast_one, Int.cast_ofNat_Int, Bool.not_not, false_eq_decide, true_eq_decide, hread0, hreadk, read_cons0, read_consk, astore_h0, astore_hk, hget0, hgetk, hset0, hsetk, hlen, hcat, Nat.add_assoc, Nat.add_zero, Nat.zero_add, List.length_append, and_true, true_and, AV.flat, *, -hK, -hks, -hcm, -hk] | refine WC.call (hks _) ?_ | with_reducible refine IfB_dec (fun h => ?_) (fun h => ?_) | with_reducible refine Guard_dec (fun h => ?_) (fun h => ?_) | with_reducible refine Guard_ndec (fun h => ?_) (fun h => ?_) | with_reducible refine Guard_not (fun h => ?_) (fun h => ?_) | with_reducible refine IfB_ndec (fun h => ?_) (fun h => ?_) | with_reducible refine IfB_not (fun h => ?_) (fun h => ?_) | with_reducible refine Guard_split (fun h => ?_) (fun h => ?_) | with_reducible refine IfB_split (fun h => ?_) (fun h => ?_))
    all_goals
      refine hK _ _ (Thaw.of_eq ?_ rfl) (Keep.app _ _ _)
      congr 1
      rw [hcm, Bool.eq_iff_iff]
      clear hK hks hcm hv
      simp only [Bool.and_eq_true, Bool.false_eq_true, decide_eq_true_eq, and_true, true_and, false_and, and_false, false_iff, true_iff, not_false_eq_true, or_true, true_or]
      try omega
end Go.Proofs.Ytkmkhiipiflelaa

