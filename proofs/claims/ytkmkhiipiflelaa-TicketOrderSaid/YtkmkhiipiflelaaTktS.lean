import Derived.Test.YtkmkhiipiflelaaTktL
set_option linter.unusedSimpArgs false
set_option linter.unusedVariables false
set_option maxRecDepth 100000
set_option maxHeartbeats 2000000
namespace Go.Proofs.Ytkmkhiipiflelaa
open Go Go.Proofs Go.Proofs.PI
theorem tmay_spec (t : Tkt) (hn : t.cmd.keys.length ≤ 1000) (H : Heap) : WC Try.prog 31 [t.av] H fun r H' => r = .bool t.mayB ∧ H' = H := by
  refine WC_val fun K hK => ?_
  have oc := fun J => ordCheck_spec t.cmd hn J
  have zs := fun J => zero_spec t.cmd (by omega) J
  obtain ⟨a1, a2, ⟨a5, a6, a7, a8, a9, aA, aB, aC⟩, a3, a4⟩ := t
  unfold Tkt.av Cmd.av at *
  unfold Tkt.mayB at hK
  simp only at *
  by_cases k1 : a2 = 1
  · rw [if_pos k1] at hK
    subst k1
    unfold ordE at oc
    cases hc : cmdB (⟨a5, a6, a7, a8, a9, aA, aB, aC⟩ : Cmd) with
    | false =>
      rw [hc] at hK oc
      rw [if_neg (by decide)] at oc
      rw [Bool.false_and] at hK
      clear hc
      refine WC_of_body hT Try.func31 rfl (by simp [Try.f31]) (by simp [Try.f31]) (wx_sound hT _ ?_)
      simp only [Try.f31]
      repeat' (first | simp only [go_sem, Nat.reduceLT, Nat.reduceEqDiff, Nat.reduceAdd, Nat.reduceMul, Nat.reduceSub, Nat.reduceLeDiff, Int.reduceToNat, Int.reduceNeg, Int.reduceLT, Int.reduceLE, Int.reduceEq, reduceCtorEq, Int.natCast_zero, Int.natCast_one, Int.cast_ofNat_Int, Bool.not_not, false_eq_decide, true_eq_decide, hread0, hreadk, read_cons0, read_consk, astore_h0, astore_hk, hget0, hgetk, hset0, hsetk, hlen, hcat, Nat.add_assoc, Nat.add_zero, Nat.zero_add, List.length_append, and_true, true_and, AV.flat, *, -hK, -oc, -zs] | refine WC.call (oc _) ?_ | refine WC.call (zs _) ?_ | with_reducible refine IfB_dec (fun h => ?_) (fun h => ?_) | with_reducible refine Guard_dec (fun h => ?_) (fun h => ?_) | with_reducible refine Guard_ndec (fun h => ?_) (fun h => ?_) | with_reducible refine Guard_not (fun h => ?_) (fun h => ?_) | with_reducible refine IfB_ndec (fun h => ?_) (fun h => ?_) | with_reducible refine IfB_not (fun h => ?_) (fun h => ?_) | with_reducible refine Guard_split (fun h => ?_) (fun h => ?_) | with_reducible refine IfB_split (fun h => ?_) (fun h => ?_))
      exact hK _ _ (.bool _) (Keep.app _ _ _)
    | true =>
      rw [hc] at hK oc
      rw [if_pos rfl] at oc
      rw [Bool.true_and] at hK
      clear hc
      by_cases h1 : a3 = 0
      · rw [show decide (a3 = 0 ∧ a4 = 0) = decide (a4 = 0) by simp [h1]] at hK
        refine WC_of_body hT Try.func31 rfl (by simp [Try.f31]) (by simp [Try.f31]) (wx_sound hT _ ?_)
        simp only [Try.f31]
        repeat' (first | simp only [go_sem, Nat.reduceLT, Nat.reduceEqDiff, Nat.reduceAdd, Nat.reduceMul, Nat.reduceSub, Nat.reduceLeDiff, Int.reduceToNat, Int.reduceNeg, Int.reduceLT, Int.reduceLE, Int.reduceEq, reduceCtorEq, Int.natCast_zero, Int.natCast_one, Int.cast_ofNat_Int, Bool.not_not, false_eq_decide, true_eq_decide, hread0, hreadk, read_cons0, read_consk, astore_h0, astore_hk, hget0, hgetk, hset0, hsetk, hlen, hcat, Nat.add_assoc, Nat.add_zero, Nat.zero_add, List.length_append, and_true, true_and, AV.flat, *, -hK, -oc, -zs] | refine WC.call (oc _) ?_ | refine WC.call (zs _) ?_ | with_reducible refine IfB_dec (fun h => ?_) (fun h => ?_) | with_reducible refine Guard_dec (fun h => ?_) (fun h => ?_) | with_reducible refine Guard_ndec (fun h => ?_) (fun h => ?_) | with_reducible refine Guard_not (fun h => ?_) (fun h => ?_) | with_reducible refine IfB_ndec (fun h => ?_) (fun h => ?_) | with_reducible refine IfB_not (fun h => ?_) (fun h => ?_) | with_reducible refine Guard_split (fun h => ?_) (fun h => ?_) | with_reducible refine IfB_split (fun h => ?_) (fun h => ?_))
        exact hK _ _ (.bool _) (Keep.app _ _ _)
      · rw [show decide (a3 = 0 ∧ a4 = 0) = false by simp [h1]] at hK
        refine WC_of_body hT Try.func31 rfl (by simp [Try.f31]) (by simp [Try.f31]) (wx_sound hT _ ?_)
        simp only [Try.f31]
        repeat' (first | simp only [go_sem, Nat.reduceLT, Nat.reduceEqDiff, Nat.reduceAdd, Nat.reduceMul, Nat.reduceSub, Nat.reduceLeDiff, Int.reduceToNat, Int.reduceNeg, Int.reduceLT, Int.reduceLE, Int.reduceEq, reduceCtorEq, Int.natCast_zero, Int.natCast_one, Int.cast_ofNat_Int, Bool.not_not, false_eq_decide, true_eq_decide, hread0, hreadk, read_cons0, read_consk, astore_h0, astore_hk, hget0, hgetk, hset0, hsetk, hlen, hcat, Nat.add_assoc, Nat.add_zero, Nat.zero_add, List.length_append, and_true, true_and, AV.flat, *, -hK, -oc, -zs] | refine WC.call (oc _) ?_ | refine WC.call (zs _) ?_ | with_reducible refine IfB_dec (fun h => ?_) (fun h => ?_) | with_reducible refine Guard_dec (fun h => ?_) (fun h => ?_) | with_reducible refine Guard_ndec (fun h => ?_) (fun h => ?_) | with_reducible refine Guard_not (fun h => ?_) (fun h => ?_) | with_reducible refine IfB_ndec (fun h => ?_) (fun h => ?_) | with_reducible refine IfB_not (fun h => ?_) (fun h => ?_) | with_reducible refine Guard_split (fun h => ?_) (fun h => ?_) | with_reducible refine IfB_split (fun h => ?_) (fun h => ?_))
        exact hK _ _ (.bool _) (Keep.app _ _ _)
  rw [if_neg k1] at hK
  by_cases k2 : a2 = 2
  · rw [if_pos k2] at hK
    subst k2
    by_cases hz : (⟨a5, a6, a7, a8, a9, aA, aB, aC⟩ : Cmd) = cmd0
    rotate_left
    · rw [show decide (_ ∧ _) = false by simp [hz]] at hK
      rw [decide_eq_false hz] at zs
      clear hz
      refine WC_of_body hT Try.func31 rfl (by simp [Try.f31]) (by simp [Try.f31]) (wx_sound hT _ ?_)
      simp only [Try.f31]
      repeat' (first | simp only [go_sem, Nat.reduceLT, Nat.reduceEqDiff, Nat.reduceAdd, Nat.reduceMul, Nat.reduceSub, Nat.reduceLeDiff, Int.reduceToNat, Int.reduceNeg, Int.reduceLT, Int.reduceLE, Int.reduceEq, reduceCtorEq, Int.natCast_zero, Int.natCast_one, Int.cast_ofNat_Int, Bool.not_not, false_eq_decide, true_eq_decide, hread0, hreadk, read_cons0, read_consk, astore_h0, astore_hk, hget0, hgetk, hset0, hsetk, hlen, hcat, Nat.add_assoc, Nat.add_zero, Nat.zero_add, List.length_append, and_true, true_and, AV.flat, *, -hK, -oc, -zs] | refine WC.call (oc _) ?_ | refine WC.call (zs _) ?_ | with_reducible refine IfB_dec (fun h => ?_) (fun h => ?_) | with_reducible refine Guard_dec (fun h => ?_) (fun h => ?_) | with_reducible refine Guard_ndec (fun h => ?_) (fun h => ?_) | with_reducible refine Guard_not (fun h => ?_) (fun h => ?_) | with_reducible refine IfB_ndec (fun h => ?_) (fun h => ?_) | with_reducible refine IfB_not (fun h => ?_) (fun h => ?_) | with_reducible refine Guard_split (fun h => ?_) (fun h => ?_) | with_reducible refine IfB_split (fun h => ?_) (fun h => ?_))
      exact hK _ _ (.bool _) (Keep.app _ _ _)
    rw [decide_eq_true hz] at zs
    by_cases h1 : a3 = 0
    rotate_left
    · rw [show decide (_ ∧ _) = false by simp [h1]] at hK
      clear hz
      refine WC_of_body hT Try.func31 rfl (by simp [Try.f31]) (by simp [Try.f31]) (wx_sound hT _ ?_)
      simp only [Try.f31]
      repeat' (first | simp only [go_sem, Nat.reduceLT, Nat.reduceEqDiff, Nat.reduceAdd, Nat.reduceMul, Nat.reduceSub, Nat.reduceLeDiff, Int.reduceToNat, Int.reduceNeg, Int.reduceLT, Int.reduceLE, Int.reduceEq, reduceCtorEq, Int.natCast_zero, Int.natCast_one, Int.cast_ofNat_Int, Bool.not_not, false_eq_decide, true_eq_decide, hread0, hreadk, read_cons0, read_consk, astore_h0, astore_hk, hget0, hgetk, hset0, hsetk, hlen, hcat, Nat.add_assoc, Nat.add_zero, Nat.zero_add, List.length_append, and_true, true_and, AV.flat, *, -hK, -oc, -zs] | refine WC.call (oc _) ?_ | refine WC.call (zs _) ?_ | with_reducible refine IfB_dec (fun h => ?_) (fun h => ?_) | with_reducible refine Guard_dec (fun h => ?_) (fun h => ?_) | with_reducible refine Guard_ndec (fun h => ?_) (fun h => ?_) | with_reducible refine Guard_not (fun h => ?_) (fun h => ?_) | with_reducible refine IfB_ndec (fun h => ?_) (fun h => ?_) | with_reducible refine IfB_not (fun h => ?_) (fun h => ?_) | with_reducible refine Guard_split (fun h => ?_) (fun h => ?_) | with_reducible refine IfB_split (fun h => ?_) (fun h => ?_))
      exact hK _ _ (.bool _) (Keep.app _ _ _)
    by_cases h2 : 0 ≤ a4
    rotate_left
    · rw [show decide (_ ∧ _) = false by simp [h2]] at hK
      have h2b : ¬ a4 ≥ 0 := h2
      clear hz
      refine WC_of_body hT Try.func31 rfl (by simp [Try.f31]) (by simp [Try.f31]) (wx_sound hT _ ?_)
      simp only [Try.f31]
      repeat' (first | simp only [go_sem, Nat.reduceLT, Nat.reduceEqDiff, Nat.reduceAdd, Nat.reduceMul, Nat.reduceSub, Nat.reduceLeDiff, Int.reduceToNat, Int.reduceNeg, Int.reduceLT, Int.reduceLE, Int.reduceEq, reduceCtorEq, Int.natCast_zero, Int.natCast_one, Int.cast_ofNat_Int, Bool.not_not, false_eq_decide, true_eq_decide, hread0, hreadk, read_cons0, read_consk, astore_h0, astore_hk, hget0, hgetk, hset0, hsetk, hlen, hcat, Nat.add_assoc, Nat.add_zero, Nat.zero_add, List.length_append, and_true, true_and, AV.flat, *, -hK, -oc, -zs] | refine WC.call (oc _) ?_ | refine WC.call (zs _) ?_ | with_reducible refine IfB_dec (fun h => ?_) (fun h => ?_) | with_reducible refine Guard_dec (fun h => ?_) (fun h => ?_) | with_reducible refine Guard_ndec (fun h => ?_) (fun h => ?_) | with_reducible refine Guard_not (fun h => ?_) (fun h => ?_) | with_reducible refine IfB_ndec (fun h => ?_) (fun h => ?_) | with_reducible refine IfB_not (fun h => ?_) (fun h => ?_) | with_reducible refine Guard_split (fun h => ?_) (fun h => ?_) | with_reducible refine IfB_split (fun h => ?_) (fun h => ?_))
      exact hK _ _ (.bool _) (Keep.app _ _ _)
    rw [show decide ((⟨a5, a6, a7, a8, a9, aA, aB, aC⟩ : Cmd) = cmd0 ∧ a3 = 0 ∧ 0 ≤ a4 ∧ a4 ≤ 1099511627776) = decide (a4 ≤ 1099511627776) by simp [hz, h1, h2]] at hK
    have h2b : a4 ≥ 0 := h2
    clear hz
    refine WC_of_body hT Try.func31 rfl (by simp [Try.f31]) (by simp [Try.f31]) (wx_sound hT _ ?_)
    simp only [Try.f31]
    repeat' (first | simp only [go_sem, Nat.reduceLT, Nat.reduceEqDiff, Nat.reduceAdd, Nat.reduceMul, Nat.reduceSub, Nat.reduceLeDiff, Int.reduceToNat, Int.reduceNeg, Int.reduceLT, Int.reduceLE, Int.reduceEq, reduceCtorEq, Int.natCast_zero, Int.natCast_one, Int.cast_ofNat_Int, Bool.not_not, false_eq_decide, true_eq_decide, hread0, hreadk, read_cons0, read_consk, astore_h0, astore_hk, hget0, hgetk, hset0, hsetk, hlen, hcat, Nat.add_assoc, Nat.add_zero, Nat.zero_add, List.length_append, and_true, true_and, AV.flat, *, -hK, -oc, -zs] | refine WC.call (oc _) ?_ | refine WC.call (zs _) ?_ | with_reducible refine IfB_dec (fun h => ?_) (fun h => ?_) | with_reducible refine Guard_dec (fun h => ?_) (fun h => ?_) | with_reducible refine Guard_ndec (fun h => ?_) (fun h => ?_) | with_reducible refine Guard_not (fun h => ?_) (fun h => ?_) | with_reducible refine IfB_ndec (fun h => ?_) (fun h => ?_) | with_reducible refine IfB_not (fun h => ?_) (fun h => ?_) | with_reducible refine Guard_split (fun h => ?_) (fun h => ?_) | with_reducible refine IfB_split (fun h => ?_) (fun h => ?_))
    exact hK _ _ (.bool _) (Keep.app _ _ _)
  rw [if_neg k2] at hK
  by_cases k3 : a2 = 3
  rotate_left
  · rw [show decide (_ ∧ _) = false by simp [k3]] at hK
    refine WC_of_body hT Try.func31 rfl (by simp [Try.f31]) (by simp [Try.f31]) (wx_sound hT _ ?_)
    simp only [Try.f31]
    repeat' (first | simp only [go_sem, Nat.reduceLT, Nat.reduceEqDiff, Nat.reduceAdd, Nat.reduceMul, Nat.reduceSub, Nat.reduceLeDiff, Int.reduceToNat, Int.reduceNeg, Int.reduceLT, Int.reduceLE, Int.reduceEq, reduceCtorEq, Int.natCast_zero, Int.natCast_one, Int.cast_ofNat_Int, Bool.not_not, false_eq_decide, true_eq_decide, hread0, hreadk, read_cons0, read_consk, astore_h0, astore_hk, hget0, hgetk, hset0, hsetk, hlen, hcat, Nat.add_assoc, Nat.add_zero, Nat.zero_add, List.length_append, and_true, true_and, AV.flat, *, -hK, -oc, -zs] | refine WC.call (oc _) ?_ | refine WC.call (zs _) ?_ | with_reducible refine IfB_dec (fun h => ?_) (fun h => ?_) | with_reducible refine Guard_dec (fun h => ?_) (fun h => ?_) | with_reducible refine Guard_ndec (fun h => ?_) (fun h => ?_) | with_reducible refine Guard_not (fun h => ?_) (fun h => ?_) | with_reducible refine IfB_ndec (fun h => ?_) (fun h => ?_) | with_reducible refine IfB_not (fun h => ?_) (fun h => ?_) | with_reducible refine Guard_split (fun h => ?_) (fun h => ?_) | with_reducible refine IfB_split (fun h => ?_) (fun h => ?_))
    exact hK _ _ (.bool _) (Keep.app _ _ _)
  subst k3
  by_cases hz : (⟨a5, a6, a7, a8, a9, aA, aB, aC⟩ : Cmd) = cmd0
  rotate_left
  · rw [show decide (_ ∧ _) = false by simp [hz]] at hK
    rw [decide_eq_false hz] at zs
    clear hz
    refine WC_of_body hT Try.func31 rfl (by simp [Try.f31]) (by simp [Try.f31]) (wx_sound hT _ ?_)
    simp only [Try.f31]
    repeat' (first | simp only [go_sem, Nat.reduceLT, Nat.reduceEqDiff, Nat.reduceAdd, Nat.reduceMul, Nat.reduceSub, Nat.reduceLeDiff, Int.reduceToNat, Int.reduceNeg, Int.reduceLT, Int.reduceLE, Int.reduceEq, reduceCtorEq, Int.natCast_zero, Int.natCast_one, Int.cast_ofNat_Int, Bool.not_not, false_eq_decide, true_eq_decide, hread0, hreadk, read_cons0, read_consk, astore_h0, astore_hk, hget0, hgetk, hset0, hsetk, hlen, hcat, Nat.add_assoc, Nat.add_zero, Nat.zero_add, List.length_append, and_true, true_and, AV.flat, *, -hK, -oc, -zs] | refine WC.call (oc _) ?_ | refine WC.call (zs _) ?_ | with_reducible refine IfB_dec (fun h => ?_) (fun h => ?_) | with_reducible refine Guard_dec (fun h => ?_) (fun h => ?_) | with_reducible refine Guard_ndec (fun h => ?_) (fun h => ?_) | with_reducible refine Guard_not (fun h => ?_) (fun h => ?_) | with_reducible refine IfB_ndec (fun h => ?_) (fun h => ?_) | with_reducible refine IfB_not (fun h => ?_) (fun h => ?_) | with_reducible refine Guard_split (fun h => ?_) (fun h => ?_) | with_reducible refine IfB_split (fun h => ?_) (fun h => ?_))
    exact hK _ _ (.bool _) (Keep.app _ _ _)
  rw [decide_eq_true hz] at zs
  by_cases h1 : 0 ≤ a3
  rotate_left
  · rw [show decide (_ ∧ _) = false by simp [h1]] at hK
    have h1b : ¬ a3 ≥ 0 := h1
    clear hz
    refine WC_of_body hT Try.func31 rfl (by simp [Try.f31]) (by simp [Try.f31]) (wx_sound hT _ ?_)
    simp only [Try.f31]
    repeat' (first | simp only [go_sem, Nat.reduceLT, Nat.reduceEqDiff, Nat.reduceAdd, Nat.reduceMul, Nat.reduceSub, Nat.reduceLeDiff, Int.reduceToNat, Int.reduceNeg, Int.reduceLT, Int.reduceLE, Int.reduceEq, reduceCtorEq, Int.natCast_zero, Int.natCast_one, Int.cast_ofNat_Int, Bool.not_not, false_eq_decide, true_eq_decide, hread0, hreadk, read_cons0, read_consk, astore_h0, astore_hk, hget0, hgetk, hset0, hsetk, hlen, hcat, Nat.add_assoc, Nat.add_zero, Nat.zero_add, List.length_append, and_true, true_and, AV.flat, *, -hK, -oc, -zs] | refine WC.call (oc _) ?_ | refine WC.call (zs _) ?_ | with_reducible refine IfB_dec (fun h => ?_) (fun h => ?_) | with_reducible refine Guard_dec (fun h => ?_) (fun h => ?_) | with_reducible refine Guard_ndec (fun h => ?_) (fun h => ?_) | with_reducible refine Guard_not (fun h => ?_) (fun h => ?_) | with_reducible refine IfB_ndec (fun h => ?_) (fun h => ?_) | with_reducible refine IfB_not (fun h => ?_) (fun h => ?_) | with_reducible refine Guard_split (fun h => ?_) (fun h => ?_) | with_reducible refine IfB_split (fun h => ?_) (fun h => ?_))
    exact hK _ _ (.bool _) (Keep.app _ _ _)
  have h1b : a3 ≥ 0 := h1
  by_cases h3 : a3 < 4
  rotate_left
  · rw [show decide (_ ∧ _) = false by simp [h3]] at hK
    clear hz
    refine WC_of_body hT Try.func31 rfl (by simp [Try.f31]) (by simp [Try.f31]) (wx_sound hT _ ?_)
    simp only [Try.f31]
    repeat' (first | simp only [go_sem, Nat.reduceLT, Nat.reduceEqDiff, Nat.reduceAdd, Nat.reduceMul, Nat.reduceSub, Nat.reduceLeDiff, Int.reduceToNat, Int.reduceNeg, Int.reduceLT, Int.reduceLE, Int.reduceEq, reduceCtorEq, Int.natCast_zero, Int.natCast_one, Int.cast_ofNat_Int, Bool.not_not, false_eq_decide, true_eq_decide, hread0, hreadk, read_cons0, read_consk, astore_h0, astore_hk, hget0, hgetk, hset0, hsetk, hlen, hcat, Nat.add_assoc, Nat.add_zero, Nat.zero_add, List.length_append, and_true, true_and, AV.flat, *, -hK, -oc, -zs] | refine WC.call (oc _) ?_ | refine WC.call (zs _) ?_ | with_reducible refine IfB_dec (fun h => ?_) (fun h => ?_) | with_reducible refine Guard_dec (fun h => ?_) (fun h => ?_) | with_reducible refine Guard_ndec (fun h => ?_) (fun h => ?_) | with_reducible refine Guard_not (fun h => ?_) (fun h => ?_) | with_reducible refine IfB_ndec (fun h => ?_) (fun h => ?_) | with_reducible refine IfB_not (fun h => ?_) (fun h => ?_) | with_reducible refine Guard_split (fun h => ?_) (fun h => ?_) | with_reducible refine IfB_split (fun h => ?_) (fun h => ?_))
    exact hK _ _ (.bool _) (Keep.app _ _ _)
  by_cases h2 : 0 ≤ a4
  rotate_left
  · rw [show decide (_ ∧ _) = false by simp [h2]] at hK
    have h2b : ¬ a4 ≥ 0 := h2
    clear hz
    refine WC_of_body hT Try.func31 rfl (by simp [Try.f31]) (by simp [Try.f31]) (wx_sound hT _ ?_)
    simp only [Try.f31]
    repeat' (first | simp only [go_sem, Nat.reduceLT, Nat.reduceEqDiff, Nat.reduceAdd, Nat.reduceMul, Nat.reduceSub, Nat.reduceLeDiff, Int.reduceToNat, Int.reduceNeg, Int.reduceLT, Int.reduceLE, Int.reduceEq, reduceCtorEq, Int.natCast_zero, Int.natCast_one, Int.cast_ofNat_Int, Bool.not_not, false_eq_decide, true_eq_decide, hread0, hreadk, read_cons0, read_consk, astore_h0, astore_hk, hget0, hgetk, hset0, hsetk, hlen, hcat, Nat.add_assoc, Nat.add_zero, Nat.zero_add, List.length_append, and_true, true_and, AV.flat, *, -hK, -oc, -zs] | refine WC.call (oc _) ?_ | refine WC.call (zs _) ?_ | with_reducible refine IfB_dec (fun h => ?_) (fun h => ?_) | with_reducible refine Guard_dec (fun h => ?_) (fun h => ?_) | with_reducible refine Guard_ndec (fun h => ?_) (fun h => ?_) | with_reducible refine Guard_not (fun h => ?_) (fun h => ?_) | with_reducible refine IfB_ndec (fun h => ?_) (fun h => ?_) | with_reducible refine IfB_not (fun h => ?_) (fun h => ?_) | with_reducible refine Guard_split (fun h => ?_) (fun h => ?_) | with_reducible refine IfB_split (fun h => ?_) (fun h => ?_))
    exact hK _ _ (.bool _) (Keep.app _ _ _)
  rw [show decide ((3 : Int) = 3 ∧ (⟨a5, a6, a7, a8, a9, aA, aB, aC⟩ : Cmd) = cmd0 ∧ (0 ≤ a3 ∧ a3 < 4) ∧ 0 ≤ a4 ∧ a4 ≤ 16) = decide (a4 ≤ 16) by simp [hz, h1, h2, h3]] at hK
  have h2b : a4 ≥ 0 := h2
  clear hz
  refine WC_of_body hT Try.func31 rfl (by simp [Try.f31]) (by simp [Try.f31]) (wx_sound hT _ ?_)
  simp only [Try.f31]
  repeat' (first | simp only [go_sem, Nat.reduceLT, Nat.reduceEqDiff, Nat.reduceAdd, Nat.reduceMul, Nat.reduceSub, Nat.reduceLeDiff, Int.reduceToNat, Int.reduceNeg, Int.reduceLT, Int.reduceLE, Int.reduceEq, reduceCtorEq, Int.natCast_zero, Int.natCast_one, Int.cast_ofNat_Int, Bool.not_not, false_eq_decide, true_eq_decide, hread0, hreadk, read_cons0, read_consk, astore_h0, astore_hk, hget0, hgetk, hset0, hsetk, hlen, hcat, Nat.add_assoc, Nat.add_zero, Nat.zero_add, List.length_append, and_true, true_and, AV.flat, *, -hK, -oc, -zs] | refine WC.call (oc _) ?_ | refine WC.call (zs _) ?_ | with_reducible refine IfB_dec (fun h => ?_) (fun h => ?_) | with_reducible refine Guard_dec (fun h => ?_) (fun h => ?_) | with_reducible refine Guard_ndec (fun h => ?_) (fun h => ?_) | with_reducible refine Guard_not (fun h => ?_) (fun h => ?_) | with_reducible refine IfB_ndec (fun h => ?_) (fun h => ?_) | with_reducible refine IfB_not (fun h => ?_) (fun h => ?_) | with_reducible refine Guard_split (fun h => ?_) (fun h => ?_) | with_reducible refine IfB_split (fun h => ?_) (fun h => ?_))
  exact hK _ _ (.bool _) (Keep.app _ _ _)
end Go.Proofs.Ytkmkhiipiflelaa
