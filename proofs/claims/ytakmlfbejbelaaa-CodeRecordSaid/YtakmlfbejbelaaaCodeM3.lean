import Derived.Test.YtakmlfbejbelaaaCodeM2
set_option linter.unusedSimpArgs false
set_option linter.unusedVariables false
set_option maxRecDepth 100000
set_option maxHeartbeats 4000000
namespace Go.Proofs.Ytakmlfbejbelaaa
open Go Go.Proofs Go.Proofs.PI
/-! ### changes: may they be? -/
theorem may_spec (c : Chg) (H : Heap) : WC Try.prog 56 [c.av] H fun r H' => r = .bool c.mayB ∧ H' = H := by
  refine WC_val fun K hK => ?_
  obtain ⟨kind, ten, ikey, ival, ifl, idue, iuniq, key, why, to, prim⟩ := c
  unfold Chg.av
  simp only
  by_cases k1 : kind = 1
  · subst k1
    refine WC_of_body hT Try.func56 rfl (by simp [Try.f56]) (by simp [Try.f56]) (wx_sound hT _ ?_)
    simp only [Try.f56]
    repeat' (first | simp only [go_sem, Nat.reduceLT, Nat.reduceEqDiff, Nat.reduceAdd, Nat.reduceMul, Nat.reduceSub, Nat.reduceLeDiff, Int.reduceToNat, Int.reduceNeg, Int.reduceLT, Int.reduceLE, Int.reduceEq, reduceCtorEq, Int.natCast_zero, Int.natCast_one, Int.cast_ofNat_Int, Bool.not_not, false_eq_decide, true_eq_decide, hread0, hreadk, read_cons0, read_consk, astore_h0, astore_hk, hget0, hgetk, hset0, hsetk, hlen, hcat, Nat.add_assoc, Nat.add_zero, Nat.zero_add, List.length_append, and_true, true_and, AV.flat, *, -hK] | with_reducible refine IfB_dec (fun h => ?_) (fun h => ?_) | with_reducible refine Guard_dec (fun h => ?_) (fun h => ?_) | with_reducible refine Guard_ndec (fun h => ?_) (fun h => ?_) | with_reducible refine Guard_not (fun h => ?_) (fun h => ?_) | with_reducible refine IfB_ndec (fun h => ?_) (fun h => ?_) | with_reducible refine IfB_not (fun h => ?_) (fun h => ?_) | with_reducible refine Guard_split (fun h => ?_) (fun h => ?_) | with_reducible refine IfB_split (fun h => ?_) (fun h => ?_))
    refine WX_rows hT hmix [(0, none), (1, none), (2, none), (3, none), (4, none), (5, some [true, false, false, true, true]), (6, none), (7, some [true, true, true, true, true, true, true])] (by kernel_rfl) ?_
    repeat' (first | simp only [go_sem, Nat.reduceLT, Nat.reduceEqDiff, Nat.reduceAdd, Nat.reduceMul, Nat.reduceSub, Nat.reduceLeDiff, Int.reduceToNat, Int.reduceNeg, Int.reduceLT, Int.reduceLE, Int.reduceEq, reduceCtorEq, Int.natCast_zero, Int.natCast_one, Int.cast_ofNat_Int, Bool.not_not, false_eq_decide, true_eq_decide, hread0, hreadk, read_cons0, read_consk, astore_h0, astore_hk, hget0, hgetk, hset0, hsetk, hlen, hcat, Nat.add_assoc, Nat.add_zero, Nat.zero_add, List.length_append, and_true, true_and, AV.flat, *, -hK] | refine WC.call (keyed_spec _ _) ?_ | refine WC.call (in_spec _ _ _) ?_ | refine WC.call (tenanted_spec _ _) ?_ | with_reducible refine IfB_dec (fun h => ?_) (fun h => ?_) | with_reducible refine Guard_dec (fun h => ?_) (fun h => ?_) | with_reducible refine Guard_ndec (fun h => ?_) (fun h => ?_) | with_reducible refine Guard_not (fun h => ?_) (fun h => ?_) | with_reducible refine IfB_ndec (fun h => ?_) (fun h => ?_) | with_reducible refine IfB_not (fun h => ?_) (fun h => ?_) | with_reducible refine Guard_split (fun h => ?_) (fun h => ?_) | with_reducible refine IfB_split (fun h => ?_) (fun h => ?_))
    all_goals
      refine hK _ _ (Thaw.of_eq ?_ rfl) (Keep.app _ _ _)
      clear hK
      congr 1
      simp only [Chg.mayB, Chg.goodP, Chg.bare, keyB, Int.reduceEq, if_true, if_false, Chg.mk.injEq, true_and, and_true, decide_eq_true_eq, decide_eq_false_iff_not] at *
      try symm
      first
        | (rw [decide_eq_false_iff_not]; omega)
        | (rw [Bool.eq_iff_iff]; simp only [Bool.and_eq_true, decide_eq_true_eq]; first | exact ⟨fun h => by simpa only [and_assoc] using h.2.2, fun h => ⟨by omega, by omega, by simpa only [and_assoc] using h⟩⟩ | exact ⟨fun h => by simpa only [and_assoc] using h.2, fun h => ⟨by omega, by simpa only [and_assoc] using h⟩⟩)
  by_cases k2 : kind = 2
  · subst k2
    refine WC_of_body hT Try.func56 rfl (by simp [Try.f56]) (by simp [Try.f56]) (wx_sound hT _ ?_)
    simp only [Try.f56]
    repeat' (first | simp only [go_sem, Nat.reduceLT, Nat.reduceEqDiff, Nat.reduceAdd, Nat.reduceMul, Nat.reduceSub, Nat.reduceLeDiff, Int.reduceToNat, Int.reduceNeg, Int.reduceLT, Int.reduceLE, Int.reduceEq, reduceCtorEq, Int.natCast_zero, Int.natCast_one, Int.cast_ofNat_Int, Bool.not_not, false_eq_decide, true_eq_decide, hread0, hreadk, read_cons0, read_consk, astore_h0, astore_hk, hget0, hgetk, hset0, hsetk, hlen, hcat, Nat.add_assoc, Nat.add_zero, Nat.zero_add, List.length_append, and_true, true_and, AV.flat, *, -hK] | with_reducible refine IfB_dec (fun h => ?_) (fun h => ?_) | with_reducible refine Guard_dec (fun h => ?_) (fun h => ?_) | with_reducible refine Guard_ndec (fun h => ?_) (fun h => ?_) | with_reducible refine Guard_not (fun h => ?_) (fun h => ?_) | with_reducible refine IfB_ndec (fun h => ?_) (fun h => ?_) | with_reducible refine IfB_not (fun h => ?_) (fun h => ?_) | with_reducible refine Guard_split (fun h => ?_) (fun h => ?_) | with_reducible refine IfB_split (fun h => ?_) (fun h => ?_))
    refine WX_rows hT hmix [(0, none), (1, none), (2, none), (3, none), (4, none), (5, none), (6, none), (7, some [true, false, false, false, false, true, true]), (8, none), (9, some [true, true, true, false, false, true, true, true, true]), (10, none), (11, some [true, true, true, true, true, true, true, true, true, true, true])] (by kernel_rfl) ?_
    repeat' (first | simp only [go_sem, Nat.reduceLT, Nat.reduceEqDiff, Nat.reduceAdd, Nat.reduceMul, Nat.reduceSub, Nat.reduceLeDiff, Int.reduceToNat, Int.reduceNeg, Int.reduceLT, Int.reduceLE, Int.reduceEq, reduceCtorEq, Int.natCast_zero, Int.natCast_one, Int.cast_ofNat_Int, Bool.not_not, false_eq_decide, true_eq_decide, hread0, hreadk, read_cons0, read_consk, astore_h0, astore_hk, hget0, hgetk, hset0, hsetk, hlen, hcat, Nat.add_assoc, Nat.add_zero, Nat.zero_add, List.length_append, and_true, true_and, AV.flat, *, -hK] | refine WC.call (keyed_spec _ _) ?_ | refine WC.call (in_spec _ _ _) ?_ | refine WC.call (tenanted_spec _ _) ?_ | with_reducible refine IfB_dec (fun h => ?_) (fun h => ?_) | with_reducible refine Guard_dec (fun h => ?_) (fun h => ?_) | with_reducible refine Guard_ndec (fun h => ?_) (fun h => ?_) | with_reducible refine Guard_not (fun h => ?_) (fun h => ?_) | with_reducible refine IfB_ndec (fun h => ?_) (fun h => ?_) | with_reducible refine IfB_not (fun h => ?_) (fun h => ?_) | with_reducible refine Guard_split (fun h => ?_) (fun h => ?_) | with_reducible refine IfB_split (fun h => ?_) (fun h => ?_))
    all_goals
      refine hK _ _ (Thaw.of_eq ?_ rfl) (Keep.app _ _ _)
      clear hK
      congr 1
      simp only [Chg.mayB, Chg.goodP, Chg.bare, keyB, Int.reduceEq, if_true, if_false, Chg.mk.injEq, true_and, and_true, decide_eq_true_eq, decide_eq_false_iff_not] at *
      try symm
      first
        | (rw [decide_eq_false_iff_not]; omega)
        | (rw [Bool.eq_iff_iff]; simp only [Bool.and_eq_true, decide_eq_true_eq]; first | exact ⟨fun h => by simpa only [and_assoc] using h.2.2, fun h => ⟨by omega, by omega, by simpa only [and_assoc] using h⟩⟩ | exact ⟨fun h => by simpa only [and_assoc] using h.2, fun h => ⟨by omega, by simpa only [and_assoc] using h⟩⟩)
  by_cases k3 : kind = 3
  · subst k3
    refine WC_of_body hT Try.func56 rfl (by simp [Try.f56]) (by simp [Try.f56]) (wx_sound hT _ ?_)
    simp only [Try.f56]
    repeat' (first | simp only [go_sem, Nat.reduceLT, Nat.reduceEqDiff, Nat.reduceAdd, Nat.reduceMul, Nat.reduceSub, Nat.reduceLeDiff, Int.reduceToNat, Int.reduceNeg, Int.reduceLT, Int.reduceLE, Int.reduceEq, reduceCtorEq, Int.natCast_zero, Int.natCast_one, Int.cast_ofNat_Int, Bool.not_not, false_eq_decide, true_eq_decide, hread0, hreadk, read_cons0, read_consk, astore_h0, astore_hk, hget0, hgetk, hset0, hsetk, hlen, hcat, Nat.add_assoc, Nat.add_zero, Nat.zero_add, List.length_append, and_true, true_and, AV.flat, *, -hK] | refine WC.call (tenanted_spec _ _) ?_ | with_reducible refine IfB_dec (fun h => ?_) (fun h => ?_) | with_reducible refine Guard_dec (fun h => ?_) (fun h => ?_) | with_reducible refine Guard_ndec (fun h => ?_) (fun h => ?_) | with_reducible refine Guard_not (fun h => ?_) (fun h => ?_) | with_reducible refine IfB_ndec (fun h => ?_) (fun h => ?_) | with_reducible refine IfB_not (fun h => ?_) (fun h => ?_) | with_reducible refine Guard_split (fun h => ?_) (fun h => ?_) | with_reducible refine IfB_split (fun h => ?_) (fun h => ?_))
    all_goals
      refine hK _ _ (Thaw.of_eq ?_ rfl) (Keep.app _ _ _)
      clear hK
      congr 1
      simp only [Chg.mayB, Chg.goodP, Chg.bare, keyB, Int.reduceEq, if_true, if_false, Chg.mk.injEq, true_and, and_true, decide_eq_true_eq, decide_eq_false_iff_not] at *
      try symm
      first
        | (rw [decide_eq_false_iff_not]; omega)
        | (rw [Bool.eq_iff_iff]; simp only [Bool.and_eq_true, decide_eq_true_eq]; first | exact ⟨fun h => by simpa only [and_assoc] using h.2.2, fun h => ⟨by omega, by omega, by simpa only [and_assoc] using h⟩⟩ | exact ⟨fun h => by simpa only [and_assoc] using h.2, fun h => ⟨by omega, by simpa only [and_assoc] using h⟩⟩)
  by_cases k4 : kind = 4
  · subst k4
    refine WC_of_body hT Try.func56 rfl (by simp [Try.f56]) (by simp [Try.f56]) (wx_sound hT _ ?_)
    simp only [Try.f56]
    repeat' (first | simp only [go_sem, Nat.reduceLT, Nat.reduceEqDiff, Nat.reduceAdd, Nat.reduceMul, Nat.reduceSub, Nat.reduceLeDiff, Int.reduceToNat, Int.reduceNeg, Int.reduceLT, Int.reduceLE, Int.reduceEq, reduceCtorEq, Int.natCast_zero, Int.natCast_one, Int.cast_ofNat_Int, Bool.not_not, false_eq_decide, true_eq_decide, hread0, hreadk, read_cons0, read_consk, astore_h0, astore_hk, hget0, hgetk, hset0, hsetk, hlen, hcat, Nat.add_assoc, Nat.add_zero, Nat.zero_add, List.length_append, and_true, true_and, AV.flat, *, -hK] | with_reducible refine IfB_dec (fun h => ?_) (fun h => ?_) | with_reducible refine Guard_dec (fun h => ?_) (fun h => ?_) | with_reducible refine Guard_ndec (fun h => ?_) (fun h => ?_) | with_reducible refine Guard_not (fun h => ?_) (fun h => ?_) | with_reducible refine IfB_ndec (fun h => ?_) (fun h => ?_) | with_reducible refine IfB_not (fun h => ?_) (fun h => ?_) | with_reducible refine Guard_split (fun h => ?_) (fun h => ?_) | with_reducible refine IfB_split (fun h => ?_) (fun h => ?_))
    refine WX_rows hT hmix [(0, none), (1, none), (2, none), (3, none), (5, none), (4, some [false, true, true, false, false]), (6, some [true, true, true, true, true, true]), (7, none)] (by kernel_rfl) ?_
    repeat' (first | simp only [go_sem, Nat.reduceLT, Nat.reduceEqDiff, Nat.reduceAdd, Nat.reduceMul, Nat.reduceSub, Nat.reduceLeDiff, Int.reduceToNat, Int.reduceNeg, Int.reduceLT, Int.reduceLE, Int.reduceEq, reduceCtorEq, Int.natCast_zero, Int.natCast_one, Int.cast_ofNat_Int, Bool.not_not, false_eq_decide, true_eq_decide, hread0, hreadk, read_cons0, read_consk, astore_h0, astore_hk, hget0, hgetk, hset0, hsetk, hlen, hcat, Nat.add_assoc, Nat.add_zero, Nat.zero_add, List.length_append, and_true, true_and, AV.flat, *, -hK] | refine WC.call (keyed_spec _ _) ?_ | refine WC.call (in_spec _ _ _) ?_ | refine WC.call (tenanted_spec _ _) ?_ | with_reducible refine IfB_dec (fun h => ?_) (fun h => ?_) | with_reducible refine Guard_dec (fun h => ?_) (fun h => ?_) | with_reducible refine Guard_ndec (fun h => ?_) (fun h => ?_) | with_reducible refine Guard_not (fun h => ?_) (fun h => ?_) | with_reducible refine IfB_ndec (fun h => ?_) (fun h => ?_) | with_reducible refine IfB_not (fun h => ?_) (fun h => ?_) | with_reducible refine Guard_split (fun h => ?_) (fun h => ?_) | with_reducible refine IfB_split (fun h => ?_) (fun h => ?_))
    all_goals
      refine hK _ _ (Thaw.of_eq ?_ rfl) (Keep.app _ _ _)
      clear hK
      congr 1
      simp only [Chg.mayB, Chg.goodP, Chg.bare, keyB, Int.reduceEq, if_true, if_false, Chg.mk.injEq, true_and, and_true, decide_eq_true_eq, decide_eq_false_iff_not] at *
      try symm
      first
        | (rw [decide_eq_false_iff_not]; omega)
        | (rw [Bool.eq_iff_iff]; simp only [Bool.and_eq_true, decide_eq_true_eq]; first | exact ⟨fun h => by simpa only [and_assoc] using h.2.2, fun h => ⟨by omega, by omega, by simpa only [and_assoc] using h⟩⟩ | exact ⟨fun h => by simpa only [and_assoc] using h.2, fun h => ⟨by omega, by simpa only [and_assoc] using h⟩⟩)
  by_cases k5 : kind = 5
  · subst k5
    refine WC_of_body hT Try.func56 rfl (by simp [Try.f56]) (by simp [Try.f56]) (wx_sound hT _ ?_)
    simp only [Try.f56]
    repeat' (first | simp only [go_sem, Nat.reduceLT, Nat.reduceEqDiff, Nat.reduceAdd, Nat.reduceMul, Nat.reduceSub, Nat.reduceLeDiff, Int.reduceToNat, Int.reduceNeg, Int.reduceLT, Int.reduceLE, Int.reduceEq, reduceCtorEq, Int.natCast_zero, Int.natCast_one, Int.cast_ofNat_Int, Bool.not_not, false_eq_decide, true_eq_decide, hread0, hreadk, read_cons0, read_consk, astore_h0, astore_hk, hget0, hgetk, hset0, hsetk, hlen, hcat, Nat.add_assoc, Nat.add_zero, Nat.zero_add, List.length_append, and_true, true_and, AV.flat, *, -hK] | with_reducible refine IfB_dec (fun h => ?_) (fun h => ?_) | with_reducible refine Guard_dec (fun h => ?_) (fun h => ?_) | with_reducible refine Guard_ndec (fun h => ?_) (fun h => ?_) | with_reducible refine Guard_not (fun h => ?_) (fun h => ?_) | with_reducible refine IfB_ndec (fun h => ?_) (fun h => ?_) | with_reducible refine IfB_not (fun h => ?_) (fun h => ?_) | with_reducible refine Guard_split (fun h => ?_) (fun h => ?_) | with_reducible refine IfB_split (fun h => ?_) (fun h => ?_))
    refine WX_rows hT hmix [(0, none), (1, none), (2, none), (3, none), (4, none), (5, none), (7, none), (6, some [false, true, true, false, false, false, false]), (8, some [true, true, true, true, false, false, true, true]), (9, none), (10, some [true, true, true, true, true, true, true, true, true, true]), (11, none)] (by kernel_rfl) ?_
    repeat' (first | simp only [go_sem, Nat.reduceLT, Nat.reduceEqDiff, Nat.reduceAdd, Nat.reduceMul, Nat.reduceSub, Nat.reduceLeDiff, Int.reduceToNat, Int.reduceNeg, Int.reduceLT, Int.reduceLE, Int.reduceEq, reduceCtorEq, Int.natCast_zero, Int.natCast_one, Int.cast_ofNat_Int, Bool.not_not, false_eq_decide, true_eq_decide, hread0, hreadk, read_cons0, read_consk, astore_h0, astore_hk, hget0, hgetk, hset0, hsetk, hlen, hcat, Nat.add_assoc, Nat.add_zero, Nat.zero_add, List.length_append, and_true, true_and, AV.flat, *, -hK] | refine WC.call (keyed_spec _ _) ?_ | refine WC.call (in_spec _ _ _) ?_ | refine WC.call (tenanted_spec _ _) ?_ | with_reducible refine IfB_dec (fun h => ?_) (fun h => ?_) | with_reducible refine Guard_dec (fun h => ?_) (fun h => ?_) | with_reducible refine Guard_ndec (fun h => ?_) (fun h => ?_) | with_reducible refine Guard_not (fun h => ?_) (fun h => ?_) | with_reducible refine IfB_ndec (fun h => ?_) (fun h => ?_) | with_reducible refine IfB_not (fun h => ?_) (fun h => ?_) | with_reducible refine Guard_split (fun h => ?_) (fun h => ?_) | with_reducible refine IfB_split (fun h => ?_) (fun h => ?_))
    all_goals
      refine hK _ _ (Thaw.of_eq ?_ rfl) (Keep.app _ _ _)
      clear hK
      congr 1
      simp only [Chg.mayB, Chg.goodP, Chg.bare, keyB, Int.reduceEq, if_true, if_false, Chg.mk.injEq, true_and, and_true, decide_eq_true_eq, decide_eq_false_iff_not] at *
      try symm
      first
        | (rw [decide_eq_false_iff_not]; omega)
        | (rw [Bool.eq_iff_iff]; simp only [Bool.and_eq_true, decide_eq_true_eq]; first | exact ⟨fun h => by simpa only [and_assoc] using h.2.2, fun h => ⟨by omega, by omega, by simpa only [and_assoc] using h⟩⟩ | exact ⟨fun h => by simpa only [and_assoc] using h.2, fun h => ⟨by omega, by simpa only [and_assoc] using h⟩⟩)
  by_cases k6 : kind = 6
  · subst k6
    refine WC_of_body hT Try.func56 rfl (by simp [Try.f56]) (by simp [Try.f56]) (wx_sound hT _ ?_)
    simp only [Try.f56]
    repeat' (first | simp only [go_sem, Nat.reduceLT, Nat.reduceEqDiff, Nat.reduceAdd, Nat.reduceMul, Nat.reduceSub, Nat.reduceLeDiff, Int.reduceToNat, Int.reduceNeg, Int.reduceLT, Int.reduceLE, Int.reduceEq, reduceCtorEq, Int.natCast_zero, Int.natCast_one, Int.cast_ofNat_Int, Bool.not_not, false_eq_decide, true_eq_decide, hread0, hreadk, read_cons0, read_consk, astore_h0, astore_hk, hget0, hgetk, hset0, hsetk, hlen, hcat, Nat.add_assoc, Nat.add_zero, Nat.zero_add, List.length_append, and_true, true_and, AV.flat, *, -hK] | with_reducible refine IfB_dec (fun h => ?_) (fun h => ?_) | with_reducible refine Guard_dec (fun h => ?_) (fun h => ?_) | with_reducible refine Guard_ndec (fun h => ?_) (fun h => ?_) | with_reducible refine Guard_not (fun h => ?_) (fun h => ?_) | with_reducible refine IfB_ndec (fun h => ?_) (fun h => ?_) | with_reducible refine IfB_not (fun h => ?_) (fun h => ?_) | with_reducible refine Guard_split (fun h => ?_) (fun h => ?_) | with_reducible refine IfB_split (fun h => ?_) (fun h => ?_))
    refine WX_rows hT hmix [(0, none), (1, none), (2, none), (3, none), (4, none), (5, none), (7, none), (6, some [false, true, true, false, false, false, false]), (8, some [true, true, true, true, false, false, true, true]), (9, none), (10, some [true, true, true, true, true, true, true, true, true, true]), (11, none)] (by kernel_rfl) ?_
    repeat' (first | simp only [go_sem, Nat.reduceLT, Nat.reduceEqDiff, Nat.reduceAdd, Nat.reduceMul, Nat.reduceSub, Nat.reduceLeDiff, Int.reduceToNat, Int.reduceNeg, Int.reduceLT, Int.reduceLE, Int.reduceEq, reduceCtorEq, Int.natCast_zero, Int.natCast_one, Int.cast_ofNat_Int, Bool.not_not, false_eq_decide, true_eq_decide, hread0, hreadk, read_cons0, read_consk, astore_h0, astore_hk, hget0, hgetk, hset0, hsetk, hlen, hcat, Nat.add_assoc, Nat.add_zero, Nat.zero_add, List.length_append, and_true, true_and, AV.flat, *, -hK] | refine WC.call (keyed_spec _ _) ?_ | refine WC.call (in_spec _ _ _) ?_ | refine WC.call (tenanted_spec _ _) ?_ | with_reducible refine IfB_dec (fun h => ?_) (fun h => ?_) | with_reducible refine Guard_dec (fun h => ?_) (fun h => ?_) | with_reducible refine Guard_ndec (fun h => ?_) (fun h => ?_) | with_reducible refine Guard_not (fun h => ?_) (fun h => ?_) | with_reducible refine IfB_ndec (fun h => ?_) (fun h => ?_) | with_reducible refine IfB_not (fun h => ?_) (fun h => ?_) | with_reducible refine Guard_split (fun h => ?_) (fun h => ?_) | with_reducible refine IfB_split (fun h => ?_) (fun h => ?_))
    all_goals
      refine hK _ _ (Thaw.of_eq ?_ rfl) (Keep.app _ _ _)
      clear hK
      congr 1
      simp only [Chg.mayB, Chg.goodP, Chg.bare, keyB, Int.reduceEq, if_true, if_false, Chg.mk.injEq, true_and, and_true, decide_eq_true_eq, decide_eq_false_iff_not] at *
      try symm
      first
        | (rw [decide_eq_false_iff_not]; omega)
        | (rw [Bool.eq_iff_iff]; simp only [Bool.and_eq_true, decide_eq_true_eq]; first | exact ⟨fun h => by simpa only [and_assoc] using h.2.2, fun h => ⟨by omega, by omega, by simpa only [and_assoc] using h⟩⟩ | exact ⟨fun h => by simpa only [and_assoc] using h.2, fun h => ⟨by omega, by simpa only [and_assoc] using h⟩⟩)
  by_cases k7 : kind = 7
  · subst k7
    refine WC_of_body hT Try.func56 rfl (by simp [Try.f56]) (by simp [Try.f56]) (wx_sound hT _ ?_)
    simp only [Try.f56]
    repeat' (first | simp only [go_sem, Nat.reduceLT, Nat.reduceEqDiff, Nat.reduceAdd, Nat.reduceMul, Nat.reduceSub, Nat.reduceLeDiff, Int.reduceToNat, Int.reduceNeg, Int.reduceLT, Int.reduceLE, Int.reduceEq, reduceCtorEq, Int.natCast_zero, Int.natCast_one, Int.cast_ofNat_Int, Bool.not_not, false_eq_decide, true_eq_decide, hread0, hreadk, read_cons0, read_consk, astore_h0, astore_hk, hget0, hgetk, hset0, hsetk, hlen, hcat, Nat.add_assoc, Nat.add_zero, Nat.zero_add, List.length_append, and_true, true_and, AV.flat, *, -hK] | with_reducible refine IfB_dec (fun h => ?_) (fun h => ?_) | with_reducible refine Guard_dec (fun h => ?_) (fun h => ?_) | with_reducible refine Guard_ndec (fun h => ?_) (fun h => ?_) | with_reducible refine Guard_not (fun h => ?_) (fun h => ?_) | with_reducible refine IfB_ndec (fun h => ?_) (fun h => ?_) | with_reducible refine IfB_not (fun h => ?_) (fun h => ?_) | with_reducible refine Guard_split (fun h => ?_) (fun h => ?_) | with_reducible refine IfB_split (fun h => ?_) (fun h => ?_))
    refine WX_rows hT hmix [(0, none), (1, none), (2, none), (3, none), (5, none), (4, some [false, true, true, false, false]), (6, some [true, true, true, true, true, true]), (7, none)] (by kernel_rfl) ?_
    repeat' (first | simp only [go_sem, Nat.reduceLT, Nat.reduceEqDiff, Nat.reduceAdd, Nat.reduceMul, Nat.reduceSub, Nat.reduceLeDiff, Int.reduceToNat, Int.reduceNeg, Int.reduceLT, Int.reduceLE, Int.reduceEq, reduceCtorEq, Int.natCast_zero, Int.natCast_one, Int.cast_ofNat_Int, Bool.not_not, false_eq_decide, true_eq_decide, hread0, hreadk, read_cons0, read_consk, astore_h0, astore_hk, hget0, hgetk, hset0, hsetk, hlen, hcat, Nat.add_assoc, Nat.add_zero, Nat.zero_add, List.length_append, and_true, true_and, AV.flat, *, -hK] | refine WC.call (keyed_spec _ _) ?_ | refine WC.call (in_spec _ _ _) ?_ | refine WC.call (tenanted_spec _ _) ?_ | with_reducible refine IfB_dec (fun h => ?_) (fun h => ?_) | with_reducible refine Guard_dec (fun h => ?_) (fun h => ?_) | with_reducible refine Guard_ndec (fun h => ?_) (fun h => ?_) | with_reducible refine Guard_not (fun h => ?_) (fun h => ?_) | with_reducible refine IfB_ndec (fun h => ?_) (fun h => ?_) | with_reducible refine IfB_not (fun h => ?_) (fun h => ?_) | with_reducible refine Guard_split (fun h => ?_) (fun h => ?_) | with_reducible refine IfB_split (fun h => ?_) (fun h => ?_))
    all_goals
      refine hK _ _ (Thaw.of_eq ?_ rfl) (Keep.app _ _ _)
      clear hK
      congr 1
      simp only [Chg.mayB, Chg.goodP, Chg.bare, keyB, Int.reduceEq, if_true, if_false, Chg.mk.injEq, true_and, and_true, decide_eq_true_eq, decide_eq_false_iff_not] at *
      try symm
      first
        | (rw [decide_eq_false_iff_not]; omega)
        | (rw [Bool.eq_iff_iff]; simp only [Bool.and_eq_true, decide_eq_true_eq]; first | exact ⟨fun h => by simpa only [and_assoc] using h.2.2, fun h => ⟨by omega, by omega, by simpa only [and_assoc] using h⟩⟩ | exact ⟨fun h => by simpa only [and_assoc] using h.2, fun h => ⟨by omega, by simpa only [and_assoc] using h⟩⟩)
  refine WC_of_body hT Try.func56 rfl (by simp [Try.f56]) (by simp [Try.f56]) (wx_sound hT _ ?_)
  simp only [Try.f56]
  repeat' (first | simp only [go_sem, Nat.reduceLT, Nat.reduceEqDiff, Nat.reduceAdd, Nat.reduceMul, Nat.reduceSub, Nat.reduceLeDiff, Int.reduceToNat, Int.reduceNeg, Int.reduceLT, Int.reduceLE, Int.reduceEq, reduceCtorEq, Int.natCast_zero, Int.natCast_one, Int.cast_ofNat_Int, Bool.not_not, false_eq_decide, true_eq_decide, hread0, hreadk, read_cons0, read_consk, astore_h0, astore_hk, hget0, hgetk, hset0, hsetk, hlen, hcat, Nat.add_assoc, Nat.add_zero, Nat.zero_add, List.length_append, and_true, true_and, AV.flat, *, -hK] | refine WC.call (tenanted_spec _ _) ?_ | with_reducible refine IfB_dec (fun h => ?_) (fun h => ?_) | with_reducible refine Guard_dec (fun h => ?_) (fun h => ?_) | with_reducible refine Guard_ndec (fun h => ?_) (fun h => ?_) | with_reducible refine Guard_not (fun h => ?_) (fun h => ?_) | with_reducible refine IfB_ndec (fun h => ?_) (fun h => ?_) | with_reducible refine IfB_not (fun h => ?_) (fun h => ?_) | with_reducible refine Guard_split (fun h => ?_) (fun h => ?_) | with_reducible refine IfB_split (fun h => ?_) (fun h => ?_))
  all_goals
    refine hK _ _ (Thaw.of_eq ?_ rfl) (Keep.app _ _ _)
    clear hK
    simp [Chg.mayB, Chg.goodP, k1, k2, k3, k4, k5, k6, k7]
open Go Go.Proofs Go.Proofs.PI
/-! ### a change is put behind bytes -/
theorem num1 {x : Int} (h0 : 0 ≤ x) (h1 : x < 18446744073709551616) : numsL [x] = small x.toNat := by
  simp only [numsL, List.flatMap_cons, List.flatMap_nil, List.append_nil]
  rw [u64w_id h0 h1]
theorem _root_.Go.Proofs.PI.Grow.off {m p : Nat} {H H' : Heap} {v r : AV} {l : List UInt8} (g : Grow m H v H' r l) (hv : ∀ b, v.blk = some b → b < H.length ∧ b ≠ p) (hp : p < H.length) : ∀ b, r.blk = some b → b < H'.length ∧ b ≠ p := fun b hb => ⟨g.own.lt hb, fun e => by
  rcases g.new b hb with h | h
  · exact (hv b h).2 e
  · omega⟩
theorem put_spec {m : Nat} (v : AV) (bs : List UInt8) (c : Chg) (ho : c.Ok) (hm : c.mayB = true) (H : Heap) (hv : Ob m H v bs) (hmH : m ≤ H.length) (hc : bs.length ≤ 140737488000000) : WC Try.prog 57 [v, c.av] H fun r H' => Grow m H v H' r (bs ++ c.putL) := by
  refine WC_of_K fun K hK => ?_
  obtain ⟨h1, h2, h3, h4⟩ := may_facts ho hm
  have hkind : [AV.int .u8 c.kind] = byc [UInt8.ofNat c.kind.toNat] := by
    have := ho.kind; simp [byc]; omega
  have hwhy : [AV.int .u8 c.why] = byc [UInt8.ofNat c.why.toNat] := by
    have := ho.why; simp [byc]; omega
  have hfl : IntKind.i64.wrap c.ifl = c.ifl := i64_id _ (by have := ho.ifl; omega) (by have := ho.ifl; omega)
  have hif := ho.ifl
  have hu := ho.iuniq
  have su := fun J => smallP c.iuniq hu.1 hu.2 J
  have hu10 := small_len10 (n := c.iuniq.toNat) (by omega)
  clear hm ho h3
  unfold Chg.goodP at h4
  obtain ⟨kind, ten, ikey, ival, ifl, idue, iuniq, key, why, to, prim⟩ := c
  unfold Chg.av
  simp only at *
  have n1 := num1 (x := ten) (by omega) (by omega)
  have s1 := numsL_len [ten]
  rw [n1] at s1
  simp only [List.length_cons, List.length_nil] at s1
  by_cases k3 : kind = 3
  · subst k3
    clear su hwhy hfl
    simp only [Chg.putL, Int.reduceEq, if_true, if_false] at hK
    refine WC_of_body hT Try.func57 rfl (by simp [Try.f57]) (by simp [Try.f57]) (wx_sound hT _ ?_)
    simp only [Try.f57]
    repeat' (first | simp only [go_sem, Nat.reduceLT, Nat.reduceEqDiff, Nat.reduceAdd, Nat.reduceMul, Nat.reduceSub, Nat.reduceLeDiff, Int.reduceToNat, Int.reduceNeg, Int.reduceLT, Int.reduceLE, Int.reduceEq, reduceCtorEq, Int.natCast_zero, Int.natCast_one, Int.cast_ofNat_Int, Bool.not_not, false_eq_decide, true_eq_decide, hread0, hreadk, read_cons0, read_consk, astore_h0, astore_hk, hget0, hgetk, hset0, hsetk, hlen, hcat, Nat.add_assoc, Nat.add_zero, Nat.zero_add, List.length_append, and_true, true_and, AV.flat, *, -hK, -hkind] | with_reducible refine IfB_dec (fun h => ?_) (fun h => ?_) | with_reducible refine Guard_dec (fun h => ?_) (fun h => ?_) | with_reducible refine Guard_ndec (fun h => ?_) (fun h => ?_) | with_reducible refine Guard_not (fun h => ?_) (fun h => ?_) | with_reducible refine IfB_ndec (fun h => ?_) (fun h => ?_) | with_reducible refine IfB_not (fun h => ?_) (fun h => ?_) | with_reducible refine Guard_split (fun h => ?_) (fun h => ?_) | with_reducible refine IfB_split (fun h => ?_) (fun h => ?_))
    have ov : Ob m (H ++ [(⟨[.int .u8 3, .int .i64 ten, .str ikey, .str ival, .int .u32 ifl, .int .i64 idue, .int .u64 iuniq, .str key, .int .u8 why, .int .i64 to, .bool prim], 0, .full⟩ : Blk), ⟨[.int .u8 3], 1, .full⟩]) v bs := hv.keep0 (Keep.app _ _ _)
    have kb : Bs (H ++ [(⟨[.int .u8 3, .int .i64 ten, .str ikey, .str ival, .int .u32 ifl, .int .i64 idue, .int .u64 iuniq, .str key, .int .u8 why, .int .i64 to, .bool prim], 0, .full⟩ : Blk), ⟨[.int .u8 3], 1, .full⟩]) (.sl (H.length + 1) 0 1 none) [UInt8.ofNat (Int.toNat 3)] := get_vs (by rw [hgetk, hkind]; rfl) rfl rfl
    refine append_gr (m := m) ov se30 az5 td5 rfl (kb.src tk30) (by simp; omega) (by simp; omega) ?_
    intro r1 H1 g1
    have hvb : ∀ b, v.blk = some b → b < H.length := fun b hb => hv.lt hb
    have hb1 := g1.keep.get (b := H.length) (B := ⟨[.int .u8 3, .int .i64 ten, .str ikey, .str ival, .int .u32 ifl, .int .i64 idue, .int .u64 iuniq, .str key, .int .u8 why, .int .i64 to, .bool prim], 0, .full⟩) (by rw [hget0]; rfl) (fun e => by have := hvb _ e; omega)
    have hl1 : H.length + 2 ≤ H1.length := by have := g1.keep.len; simpa using this
    have hr1 := g1.off (p := H.length) (fun b hb => by have := hvb b hb; simp; omega) (by simp)
    have g1' := Grow.pre (Keep.app none H _) g1
    repeat' (first | simp only [go_sem, Nat.reduceLT, Nat.reduceEqDiff, Nat.reduceAdd, Nat.reduceMul, Nat.reduceSub, Nat.reduceLeDiff, Int.reduceToNat, Int.reduceNeg, Int.reduceLT, Int.reduceLE, Int.reduceEq, reduceCtorEq, Int.natCast_zero, Int.natCast_one, Int.cast_ofNat_Int, Bool.not_not, false_eq_decide, true_eq_decide, hread0, hreadk, read_cons0, read_consk, astore_h0, astore_hk, hget0, hgetk, hset0, hsetk, hlen, hcat, Nat.add_assoc, Nat.add_zero, Nat.zero_add, List.length_append, and_true, true_and, AV.flat, hb1, get_app hb1, read_get hb1, read_app hb1, *, -hK, -hkind, -n1, -s1] | with_reducible refine IfB_dec (fun h => ?_) (fun h => ?_) | with_reducible refine Guard_dec (fun h => ?_) (fun h => ?_) | with_reducible refine Guard_ndec (fun h => ?_) (fun h => ?_) | with_reducible refine Guard_not (fun h => ?_) (fun h => ?_) | with_reducible refine IfB_ndec (fun h => ?_) (fun h => ?_) | with_reducible refine IfB_not (fun h => ?_) (fun h => ?_) | with_reducible refine Guard_split (fun h => ?_) (fun h => ?_) | with_reducible refine IfB_split (fun h => ?_) (fun h => ?_))
    refine (nums_spec (m := m) _ _ _ [ten] _ (g1.own.keep0 (Keep.app none H1 [(⟨[.int .i64 ten], 1, .full⟩ : Blk)])) (by simp; omega) (get_vs (by rw [hget0]; rfl) rfl rfl) (fun b hb e => by have := hr1 b e; simp [AV.blk] at hb; omega) (by simp; omega)).mono ?_
    intro r2 H2 g2
    rw [n1] at g2
    have hb2 := g2.keep.get (get_app hb1 _) (fun e => (hr1 _ e).2 rfl)
    have hl2 : H1.length + 1 ≤ H2.length := by have := g2.keep.len; simpa using this
    have hr2 := g2.off (p := H.length) (fun b hb => by have := hr1 b hb; simp; omega) (by simp; omega)
    have g2' := g1'.trans (Grow.pre (Keep.app none H1 _) g2)
    repeat' (first | simp only [go_sem, Nat.reduceLT, Nat.reduceEqDiff, Nat.reduceAdd, Nat.reduceMul, Nat.reduceSub, Nat.reduceLeDiff, Int.reduceToNat, Int.reduceNeg, Int.reduceLT, Int.reduceLE, Int.reduceEq, reduceCtorEq, Int.natCast_zero, Int.natCast_one, Int.cast_ofNat_Int, Bool.not_not, false_eq_decide, true_eq_decide, hread0, hreadk, read_cons0, read_consk, astore_h0, astore_hk, hget0, hgetk, hset0, hsetk, hlen, hcat, Nat.add_assoc, Nat.add_zero, Nat.zero_add, List.length_append, and_true, true_and, AV.flat, hb2, get_app hb2, read_get hb2, read_app hb2, *, -hK, -hkind, -n1, -s1] | with_reducible refine IfB_dec (fun h => ?_) (fun h => ?_) | with_reducible refine Guard_dec (fun h => ?_) (fun h => ?_) | with_reducible refine Guard_ndec (fun h => ?_) (fun h => ?_) | with_reducible refine Guard_not (fun h => ?_) (fun h => ?_) | with_reducible refine IfB_ndec (fun h => ?_) (fun h => ?_) | with_reducible refine IfB_not (fun h => ?_) (fun h => ?_) | with_reducible refine Guard_split (fun h => ?_) (fun h => ?_) | with_reducible refine IfB_split (fun h => ?_) (fun h => ?_))
    refine hK _ _ (g2'.eq ?_)
    simp
  by_cases k4 : kind = 4
  · subst k4
    clear su hwhy hfl
    simp only [Chg.putL, Int.reduceEq, if_true, if_false] at hK h4
    refine WC_of_body hT Try.func57 rfl (by simp [Try.f57]) (by simp [Try.f57]) (wx_sound hT _ ?_)
    simp only [Try.f57]
    repeat' (first | simp only [go_sem, Nat.reduceLT, Nat.reduceEqDiff, Nat.reduceAdd, Nat.reduceMul, Nat.reduceSub, Nat.reduceLeDiff, Int.reduceToNat, Int.reduceNeg, Int.reduceLT, Int.reduceLE, Int.reduceEq, reduceCtorEq, Int.natCast_zero, Int.natCast_one, Int.cast_ofNat_Int, Bool.not_not, false_eq_decide, true_eq_decide, hread0, hreadk, read_cons0, read_consk, astore_h0, astore_hk, hget0, hgetk, hset0, hsetk, hlen, hcat, Nat.add_assoc, Nat.add_zero, Nat.zero_add, List.length_append, and_true, true_and, AV.flat, *, -hK, -hkind] | with_reducible refine IfB_dec (fun h => ?_) (fun h => ?_) | with_reducible refine Guard_dec (fun h => ?_) (fun h => ?_) | with_reducible refine Guard_ndec (fun h => ?_) (fun h => ?_) | with_reducible refine Guard_not (fun h => ?_) (fun h => ?_) | with_reducible refine IfB_ndec (fun h => ?_) (fun h => ?_) | with_reducible refine IfB_not (fun h => ?_) (fun h => ?_) | with_reducible refine Guard_split (fun h => ?_) (fun h => ?_) | with_reducible refine IfB_split (fun h => ?_) (fun h => ?_))
    have ov : Ob m (H ++ [(⟨[.int .u8 4, .int .i64 ten, .str ikey, .str ival, .int .u32 ifl, .int .i64 idue, .int .u64 iuniq, .str key, .int .u8 why, .int .i64 to, .bool prim], 0, .full⟩ : Blk), ⟨[.int .u8 4], 1, .full⟩]) v bs := hv.keep0 (Keep.app _ _ _)
    have kb : Bs (H ++ [(⟨[.int .u8 4, .int .i64 ten, .str ikey, .str ival, .int .u32 ifl, .int .i64 idue, .int .u64 iuniq, .str key, .int .u8 why, .int .i64 to, .bool prim], 0, .full⟩ : Blk), ⟨[.int .u8 4], 1, .full⟩]) (.sl (H.length + 1) 0 1 none) [UInt8.ofNat (Int.toNat 4)] := get_vs (by rw [hgetk, hkind]; rfl) rfl rfl
    refine append_gr (m := m) ov se30 az5 td5 rfl (kb.src tk30) (by simp; omega) (by simp; omega) ?_
    intro r1 H1 g1
    have hvb : ∀ b, v.blk = some b → b < H.length := fun b hb => hv.lt hb
    have hb1 := g1.keep.get (b := H.length) (B := ⟨[.int .u8 4, .int .i64 ten, .str ikey, .str ival, .int .u32 ifl, .int .i64 idue, .int .u64 iuniq, .str key, .int .u8 why, .int .i64 to, .bool prim], 0, .full⟩) (by rw [hget0]; rfl) (fun e => by have := hvb _ e; omega)
    have hl1 : H.length + 2 ≤ H1.length := by have := g1.keep.len; simpa using this
    have hr1 := g1.off (p := H.length) (fun b hb => by have := hvb b hb; simp; omega) (by simp)
    have g1' := Grow.pre (Keep.app none H _) g1
    repeat' (first | simp only [go_sem, Nat.reduceLT, Nat.reduceEqDiff, Nat.reduceAdd, Nat.reduceMul, Nat.reduceSub, Nat.reduceLeDiff, Int.reduceToNat, Int.reduceNeg, Int.reduceLT, Int.reduceLE, Int.reduceEq, reduceCtorEq, Int.natCast_zero, Int.natCast_one, Int.cast_ofNat_Int, Bool.not_not, false_eq_decide, true_eq_decide, hread0, hreadk, read_cons0, read_consk, astore_h0, astore_hk, hget0, hgetk, hset0, hsetk, hlen, hcat, Nat.add_assoc, Nat.add_zero, Nat.zero_add, List.length_append, and_true, true_and, AV.flat, hb1, get_app hb1, read_get hb1, read_app hb1, *, -hK, -hkind, -n1, -s1] | with_reducible refine IfB_dec (fun h => ?_) (fun h => ?_) | with_reducible refine Guard_dec (fun h => ?_) (fun h => ?_) | with_reducible refine Guard_ndec (fun h => ?_) (fun h => ?_) | with_reducible refine Guard_not (fun h => ?_) (fun h => ?_) | with_reducible refine IfB_ndec (fun h => ?_) (fun h => ?_) | with_reducible refine IfB_not (fun h => ?_) (fun h => ?_) | with_reducible refine Guard_split (fun h => ?_) (fun h => ?_) | with_reducible refine IfB_split (fun h => ?_) (fun h => ?_))
    refine (nums_spec (m := m) _ _ _ [to] _ (g1.own.keep0 (Keep.app none H1 [(⟨[.int .i64 to], 1, .full⟩ : Blk)])) (by simp; omega) (get_vs (by rw [hget0]; rfl) rfl rfl) (fun b hb e => by have := hr1 b e; simp [AV.blk] at hb; omega) (by simp at s1 ⊢; omega)).mono ?_
    intro r3 H3 g3
    rw [num1 (x := to) (by omega) (by omega)] at g3
    have hb3 := g3.keep.get (get_app hb1 _) (fun e => (hr1 _ e).2 rfl)
    have g3' := Grow.trans g1' (Grow.pre (Keep.app none H1 _) g3)
    repeat' (first | simp only [go_sem, Nat.reduceLT, Nat.reduceEqDiff, Nat.reduceAdd, Nat.reduceMul, Nat.reduceSub, Nat.reduceLeDiff, Int.reduceToNat, Int.reduceNeg, Int.reduceLT, Int.reduceLE, Int.reduceEq, reduceCtorEq, Int.natCast_zero, Int.natCast_one, Int.cast_ofNat_Int, Bool.not_not, false_eq_decide, true_eq_decide, hread0, hreadk, read_cons0, read_consk, astore_h0, astore_hk, hget0, hgetk, hset0, hsetk, hlen, hcat, Nat.add_assoc, Nat.add_zero, Nat.zero_add, List.length_append, and_true, true_and, AV.flat, hb3, get_app hb3, read_get hb3, read_app hb3, *, -hK, -hkind, -n1, -s1] | with_reducible refine IfB_dec (fun h => ?_) (fun h => ?_) | with_reducible refine Guard_dec (fun h => ?_) (fun h => ?_) | with_reducible refine Guard_ndec (fun h => ?_) (fun h => ?_) | with_reducible refine Guard_not (fun h => ?_) (fun h => ?_) | with_reducible refine IfB_ndec (fun h => ?_) (fun h => ?_) | with_reducible refine IfB_not (fun h => ?_) (fun h => ?_) | with_reducible refine Guard_split (fun h => ?_) (fun h => ?_) | with_reducible refine IfB_split (fun h => ?_) (fun h => ?_))
    refine hK _ _ (g3'.eq ?_)
    simp
  by_cases k7 : kind = 7
  · subst k7
    clear su hwhy hfl
    simp only [Chg.putL, Int.reduceEq, if_true, if_false] at hK h4
    refine WC_of_body hT Try.func57 rfl (by simp [Try.f57]) (by simp [Try.f57]) (wx_sound hT _ ?_)
    simp only [Try.f57]
    repeat' (first | simp only [go_sem, Nat.reduceLT, Nat.reduceEqDiff, Nat.reduceAdd, Nat.reduceMul, Nat.reduceSub, Nat.reduceLeDiff, Int.reduceToNat, Int.reduceNeg, Int.reduceLT, Int.reduceLE, Int.reduceEq, reduceCtorEq, Int.natCast_zero, Int.natCast_one, Int.cast_ofNat_Int, Bool.not_not, false_eq_decide, true_eq_decide, hread0, hreadk, read_cons0, read_consk, astore_h0, astore_hk, hget0, hgetk, hset0, hsetk, hlen, hcat, Nat.add_assoc, Nat.add_zero, Nat.zero_add, List.length_append, and_true, true_and, AV.flat, *, -hK, -hkind] | with_reducible refine IfB_dec (fun h => ?_) (fun h => ?_) | with_reducible refine Guard_dec (fun h => ?_) (fun h => ?_) | with_reducible refine Guard_ndec (fun h => ?_) (fun h => ?_) | with_reducible refine Guard_not (fun h => ?_) (fun h => ?_) | with_reducible refine IfB_ndec (fun h => ?_) (fun h => ?_) | with_reducible refine IfB_not (fun h => ?_) (fun h => ?_) | with_reducible refine Guard_split (fun h => ?_) (fun h => ?_) | with_reducible refine IfB_split (fun h => ?_) (fun h => ?_))
    have ov : Ob m (H ++ [(⟨[.int .u8 7, .int .i64 ten, .str ikey, .str ival, .int .u32 ifl, .int .i64 idue, .int .u64 iuniq, .str key, .int .u8 why, .int .i64 to, .bool prim], 0, .full⟩ : Blk), ⟨[.int .u8 7], 1, .full⟩]) v bs := hv.keep0 (Keep.app _ _ _)
    have kb : Bs (H ++ [(⟨[.int .u8 7, .int .i64 ten, .str ikey, .str ival, .int .u32 ifl, .int .i64 idue, .int .u64 iuniq, .str key, .int .u8 why, .int .i64 to, .bool prim], 0, .full⟩ : Blk), ⟨[.int .u8 7], 1, .full⟩]) (.sl (H.length + 1) 0 1 none) [UInt8.ofNat (Int.toNat 7)] := get_vs (by rw [hgetk, hkind]; rfl) rfl rfl
    refine append_gr (m := m) ov se30 az5 td5 rfl (kb.src tk30) (by simp; omega) (by simp; omega) ?_
    intro r1 H1 g1
    have hvb : ∀ b, v.blk = some b → b < H.length := fun b hb => hv.lt hb
    have hb1 := g1.keep.get (b := H.length) (B := ⟨[.int .u8 7, .int .i64 ten, .str ikey, .str ival, .int .u32 ifl, .int .i64 idue, .int .u64 iuniq, .str key, .int .u8 why, .int .i64 to, .bool prim], 0, .full⟩) (by rw [hget0]; rfl) (fun e => by have := hvb _ e; omega)
    have hl1 : H.length + 2 ≤ H1.length := by have := g1.keep.len; simpa using this
    have hr1 := g1.off (p := H.length) (fun b hb => by have := hvb b hb; simp; omega) (by simp)
    have g1' := Grow.pre (Keep.app none H _) g1
    repeat' (first | simp only [go_sem, Nat.reduceLT, Nat.reduceEqDiff, Nat.reduceAdd, Nat.reduceMul, Nat.reduceSub, Nat.reduceLeDiff, Int.reduceToNat, Int.reduceNeg, Int.reduceLT, Int.reduceLE, Int.reduceEq, reduceCtorEq, Int.natCast_zero, Int.natCast_one, Int.cast_ofNat_Int, Bool.not_not, false_eq_decide, true_eq_decide, hread0, hreadk, read_cons0, read_consk, astore_h0, astore_hk, hget0, hgetk, hset0, hsetk, hlen, hcat, Nat.add_assoc, Nat.add_zero, Nat.zero_add, List.length_append, and_true, true_and, AV.flat, hb1, get_app hb1, read_get hb1, read_app hb1, *, -hK, -hkind, -n1, -s1] | with_reducible refine IfB_dec (fun h => ?_) (fun h => ?_) | with_reducible refine Guard_dec (fun h => ?_) (fun h => ?_) | with_reducible refine Guard_ndec (fun h => ?_) (fun h => ?_) | with_reducible refine Guard_not (fun h => ?_) (fun h => ?_) | with_reducible refine IfB_ndec (fun h => ?_) (fun h => ?_) | with_reducible refine IfB_not (fun h => ?_) (fun h => ?_) | with_reducible refine Guard_split (fun h => ?_) (fun h => ?_) | with_reducible refine IfB_split (fun h => ?_) (fun h => ?_))
    refine (nums_spec (m := m) _ _ _ [to] _ (g1.own.keep0 (Keep.app none H1 [(⟨[.int .i64 to], 1, .full⟩ : Blk)])) (by simp; omega) (get_vs (by rw [hget0]; rfl) rfl rfl) (fun b hb e => by have := hr1 b e; simp [AV.blk] at hb; omega) (by simp at s1 ⊢; omega)).mono ?_
    intro r3 H3 g3
    rw [num1 (x := to) (by omega) (by omega)] at g3
    have hb3 := g3.keep.get (get_app hb1 _) (fun e => (hr1 _ e).2 rfl)
    have g3' := Grow.trans g1' (Grow.pre (Keep.app none H1 _) g3)
    repeat' (first | simp only [go_sem, Nat.reduceLT, Nat.reduceEqDiff, Nat.reduceAdd, Nat.reduceMul, Nat.reduceSub, Nat.reduceLeDiff, Int.reduceToNat, Int.reduceNeg, Int.reduceLT, Int.reduceLE, Int.reduceEq, reduceCtorEq, Int.natCast_zero, Int.natCast_one, Int.cast_ofNat_Int, Bool.not_not, false_eq_decide, true_eq_decide, hread0, hreadk, read_cons0, read_consk, astore_h0, astore_hk, hget0, hgetk, hset0, hsetk, hlen, hcat, Nat.add_assoc, Nat.add_zero, Nat.zero_add, List.length_append, and_true, true_and, AV.flat, hb3, get_app hb3, read_get hb3, read_app hb3, *, -hK, -hkind, -n1, -s1] | with_reducible refine IfB_dec (fun h => ?_) (fun h => ?_) | with_reducible refine Guard_dec (fun h => ?_) (fun h => ?_) | with_reducible refine Guard_ndec (fun h => ?_) (fun h => ?_) | with_reducible refine Guard_not (fun h => ?_) (fun h => ?_) | with_reducible refine IfB_ndec (fun h => ?_) (fun h => ?_) | with_reducible refine IfB_not (fun h => ?_) (fun h => ?_) | with_reducible refine Guard_split (fun h => ?_) (fun h => ?_) | with_reducible refine IfB_split (fun h => ?_) (fun h => ?_))
    refine hK _ _ (g3'.eq ?_)
    simp
  by_cases k5 : kind = 5
  · subst k5
    clear su hwhy hfl
    simp only [Chg.putL, Int.reduceEq, if_true, if_false] at hK h4
    refine WC_of_body hT Try.func57 rfl (by simp [Try.f57]) (by simp [Try.f57]) (wx_sound hT _ ?_)
    simp only [Try.f57]
    repeat' (first | simp only [go_sem, Nat.reduceLT, Nat.reduceEqDiff, Nat.reduceAdd, Nat.reduceMul, Nat.reduceSub, Nat.reduceLeDiff, Int.reduceToNat, Int.reduceNeg, Int.reduceLT, Int.reduceLE, Int.reduceEq, reduceCtorEq, Int.natCast_zero, Int.natCast_one, Int.cast_ofNat_Int, Bool.not_not, false_eq_decide, true_eq_decide, hread0, hreadk, read_cons0, read_consk, astore_h0, astore_hk, hget0, hgetk, hset0, hsetk, hlen, hcat, Nat.add_assoc, Nat.add_zero, Nat.zero_add, List.length_append, and_true, true_and, AV.flat, *, -hK, -hkind] | with_reducible refine IfB_dec (fun h => ?_) (fun h => ?_) | with_reducible refine Guard_dec (fun h => ?_) (fun h => ?_) | with_reducible refine Guard_ndec (fun h => ?_) (fun h => ?_) | with_reducible refine Guard_not (fun h => ?_) (fun h => ?_) | with_reducible refine IfB_ndec (fun h => ?_) (fun h => ?_) | with_reducible refine IfB_not (fun h => ?_) (fun h => ?_) | with_reducible refine Guard_split (fun h => ?_) (fun h => ?_) | with_reducible refine IfB_split (fun h => ?_) (fun h => ?_))
    have ov : Ob m (H ++ [(⟨[.int .u8 5, .int .i64 ten, .str ikey, .str ival, .int .u32 ifl, .int .i64 idue, .int .u64 iuniq, .str key, .int .u8 why, .int .i64 to, .bool prim], 0, .full⟩ : Blk), ⟨[.int .u8 5], 1, .full⟩]) v bs := hv.keep0 (Keep.app _ _ _)
    have kb : Bs (H ++ [(⟨[.int .u8 5, .int .i64 ten, .str ikey, .str ival, .int .u32 ifl, .int .i64 idue, .int .u64 iuniq, .str key, .int .u8 why, .int .i64 to, .bool prim], 0, .full⟩ : Blk), ⟨[.int .u8 5], 1, .full⟩]) (.sl (H.length + 1) 0 1 none) [UInt8.ofNat (Int.toNat 5)] := get_vs (by rw [hgetk, hkind]; rfl) rfl rfl
    refine append_gr (m := m) ov se30 az5 td5 rfl (kb.src tk30) (by simp; omega) (by simp; omega) ?_
    intro r1 H1 g1
    have hvb : ∀ b, v.blk = some b → b < H.length := fun b hb => hv.lt hb
    have hb1 := g1.keep.get (b := H.length) (B := ⟨[.int .u8 5, .int .i64 ten, .str ikey, .str ival, .int .u32 ifl, .int .i64 idue, .int .u64 iuniq, .str key, .int .u8 why, .int .i64 to, .bool prim], 0, .full⟩) (by rw [hget0]; rfl) (fun e => by have := hvb _ e; omega)
    have hl1 : H.length + 2 ≤ H1.length := by have := g1.keep.len; simpa using this
    have hr1 := g1.off (p := H.length) (fun b hb => by have := hvb b hb; simp; omega) (by simp)
    have g1' := Grow.pre (Keep.app none H _) g1
    repeat' (first | simp only [go_sem, Nat.reduceLT, Nat.reduceEqDiff, Nat.reduceAdd, Nat.reduceMul, Nat.reduceSub, Nat.reduceLeDiff, Int.reduceToNat, Int.reduceNeg, Int.reduceLT, Int.reduceLE, Int.reduceEq, reduceCtorEq, Int.natCast_zero, Int.natCast_one, Int.cast_ofNat_Int, Bool.not_not, false_eq_decide, true_eq_decide, hread0, hreadk, read_cons0, read_consk, astore_h0, astore_hk, hget0, hgetk, hset0, hsetk, hlen, hcat, Nat.add_assoc, Nat.add_zero, Nat.zero_add, List.length_append, and_true, true_and, AV.flat, hb1, get_app hb1, read_get hb1, read_app hb1, *, -hK, -hkind, -n1, -s1] | with_reducible refine IfB_dec (fun h => ?_) (fun h => ?_) | with_reducible refine Guard_dec (fun h => ?_) (fun h => ?_) | with_reducible refine Guard_ndec (fun h => ?_) (fun h => ?_) | with_reducible refine Guard_not (fun h => ?_) (fun h => ?_) | with_reducible refine IfB_ndec (fun h => ?_) (fun h => ?_) | with_reducible refine IfB_not (fun h => ?_) (fun h => ?_) | with_reducible refine Guard_split (fun h => ?_) (fun h => ?_) | with_reducible refine IfB_split (fun h => ?_) (fun h => ?_))
    refine (nums_spec (m := m) _ _ _ [ten] _ (g1.own.keep0 (Keep.app none H1 [(⟨[.int .i64 ten], 1, .full⟩ : Blk)])) (by simp; omega) (get_vs (by rw [hget0]; rfl) rfl rfl) (fun b hb e => by have := hr1 b e; simp [AV.blk] at hb; omega) (by simp; omega)).mono ?_
    intro r2 H2 g2
    rw [n1] at g2
    have hb2 := g2.keep.get (get_app hb1 _) (fun e => (hr1 _ e).2 rfl)
    have hl2 : H1.length + 1 ≤ H2.length := by have := g2.keep.len; simpa using this
    have hr2 := g2.off (p := H.length) (fun b hb => by have := hr1 b hb; simp; omega) (by simp; omega)
    have g2' := g1'.trans (Grow.pre (Keep.app none H1 _) g2)
    repeat' (first | simp only [go_sem, Nat.reduceLT, Nat.reduceEqDiff, Nat.reduceAdd, Nat.reduceMul, Nat.reduceSub, Nat.reduceLeDiff, Int.reduceToNat, Int.reduceNeg, Int.reduceLT, Int.reduceLE, Int.reduceEq, reduceCtorEq, Int.natCast_zero, Int.natCast_one, Int.cast_ofNat_Int, Bool.not_not, false_eq_decide, true_eq_decide, hread0, hreadk, read_cons0, read_consk, astore_h0, astore_hk, hget0, hgetk, hset0, hsetk, hlen, hcat, Nat.add_assoc, Nat.add_zero, Nat.zero_add, List.length_append, and_true, true_and, AV.flat, hb2, get_app hb2, read_get hb2, read_app hb2, *, -hK, -hkind, -n1, -s1] | with_reducible refine IfB_dec (fun h => ?_) (fun h => ?_) | with_reducible refine Guard_dec (fun h => ?_) (fun h => ?_) | with_reducible refine Guard_ndec (fun h => ?_) (fun h => ?_) | with_reducible refine Guard_not (fun h => ?_) (fun h => ?_) | with_reducible refine IfB_ndec (fun h => ?_) (fun h => ?_) | with_reducible refine IfB_not (fun h => ?_) (fun h => ?_) | with_reducible refine Guard_split (fun h => ?_) (fun h => ?_) | with_reducible refine IfB_split (fun h => ?_) (fun h => ?_))
    refine (nums_spec (m := m) _ _ _ [to] _ (g2.own.keep0 (Keep.app none H2 [(⟨[.int .i64 to], 1, .full⟩ : Blk)])) (by simp; omega) (get_vs (by rw [hget0]; rfl) rfl rfl) (fun b hb e => by have := hr2 b e; simp [AV.blk] at hb; omega) (by simp at s1 ⊢; omega)).mono ?_
    intro r3 H3 g3
    rw [num1 (x := to) (by omega) (by omega)] at g3
    have hb3 := g3.keep.get (get_app hb2 _) (fun e => (hr2 _ e).2 rfl)
    have g3' := Grow.trans g2' (Grow.pre (Keep.app none H2 _) g3)
    repeat' (first | simp only [go_sem, Nat.reduceLT, Nat.reduceEqDiff, Nat.reduceAdd, Nat.reduceMul, Nat.reduceSub, Nat.reduceLeDiff, Int.reduceToNat, Int.reduceNeg, Int.reduceLT, Int.reduceLE, Int.reduceEq, reduceCtorEq, Int.natCast_zero, Int.natCast_one, Int.cast_ofNat_Int, Bool.not_not, false_eq_decide, true_eq_decide, hread0, hreadk, read_cons0, read_consk, astore_h0, astore_hk, hget0, hgetk, hset0, hsetk, hlen, hcat, Nat.add_assoc, Nat.add_zero, Nat.zero_add, List.length_append, and_true, true_and, AV.flat, hb3, get_app hb3, read_get hb3, read_app hb3, *, -hK, -hkind, -n1, -s1] | with_reducible refine IfB_dec (fun h => ?_) (fun h => ?_) | with_reducible refine Guard_dec (fun h => ?_) (fun h => ?_) | with_reducible refine Guard_ndec (fun h => ?_) (fun h => ?_) | with_reducible refine Guard_not (fun h => ?_) (fun h => ?_) | with_reducible refine IfB_ndec (fun h => ?_) (fun h => ?_) | with_reducible refine IfB_not (fun h => ?_) (fun h => ?_) | with_reducible refine Guard_split (fun h => ?_) (fun h => ?_) | with_reducible refine IfB_split (fun h => ?_) (fun h => ?_))
    refine hK _ _ (g3'.eq ?_)
    simp
  by_cases k6 : kind = 6
  · subst k6
    clear su hwhy hfl
    simp only [Chg.putL, Int.reduceEq, if_true, if_false] at hK h4
    refine WC_of_body hT Try.func57 rfl (by simp [Try.f57]) (by simp [Try.f57]) (wx_sound hT _ ?_)
    simp only [Try.f57]
    repeat' (first | simp only [go_sem, Nat.reduceLT, Nat.reduceEqDiff, Nat.reduceAdd, Nat.reduceMul, Nat.reduceSub, Nat.reduceLeDiff, Int.reduceToNat, Int.reduceNeg, Int.reduceLT, Int.reduceLE, Int.reduceEq, reduceCtorEq, Int.natCast_zero, Int.natCast_one, Int.cast_ofNat_Int, Bool.not_not, false_eq_decide, true_eq_decide, hread0, hreadk, read_cons0, read_consk, astore_h0, astore_hk, hget0, hgetk, hset0, hsetk, hlen, hcat, Nat.add_assoc, Nat.add_zero, Nat.zero_add, List.length_append, and_true, true_and, AV.flat, *, -hK, -hkind] | with_reducible refine IfB_dec (fun h => ?_) (fun h => ?_) | with_reducible refine Guard_dec (fun h => ?_) (fun h => ?_) | with_reducible refine Guard_ndec (fun h => ?_) (fun h => ?_) | with_reducible refine Guard_not (fun h => ?_) (fun h => ?_) | with_reducible refine IfB_ndec (fun h => ?_) (fun h => ?_) | with_reducible refine IfB_not (fun h => ?_) (fun h => ?_) | with_reducible refine Guard_split (fun h => ?_) (fun h => ?_) | with_reducible refine IfB_split (fun h => ?_) (fun h => ?_))
    have ov : Ob m (H ++ [(⟨[.int .u8 6, .int .i64 ten, .str ikey, .str ival, .int .u32 ifl, .int .i64 idue, .int .u64 iuniq, .str key, .int .u8 why, .int .i64 to, .bool prim], 0, .full⟩ : Blk), ⟨[.int .u8 6], 1, .full⟩]) v bs := hv.keep0 (Keep.app _ _ _)
    have kb : Bs (H ++ [(⟨[.int .u8 6, .int .i64 ten, .str ikey, .str ival, .int .u32 ifl, .int .i64 idue, .int .u64 iuniq, .str key, .int .u8 why, .int .i64 to, .bool prim], 0, .full⟩ : Blk), ⟨[.int .u8 6], 1, .full⟩]) (.sl (H.length + 1) 0 1 none) [UInt8.ofNat (Int.toNat 6)] := get_vs (by rw [hgetk, hkind]; rfl) rfl rfl
    refine append_gr (m := m) ov se30 az5 td5 rfl (kb.src tk30) (by simp; omega) (by simp; omega) ?_
    intro r1 H1 g1
    have hvb : ∀ b, v.blk = some b → b < H.length := fun b hb => hv.lt hb
    have hb1 := g1.keep.get (b := H.length) (B := ⟨[.int .u8 6, .int .i64 ten, .str ikey, .str ival, .int .u32 ifl, .int .i64 idue, .int .u64 iuniq, .str key, .int .u8 why, .int .i64 to, .bool prim], 0, .full⟩) (by rw [hget0]; rfl) (fun e => by have := hvb _ e; omega)
    have hl1 : H.length + 2 ≤ H1.length := by have := g1.keep.len; simpa using this
    have hr1 := g1.off (p := H.length) (fun b hb => by have := hvb b hb; simp; omega) (by simp)
    have g1' := Grow.pre (Keep.app none H _) g1
    repeat' (first | simp only [go_sem, Nat.reduceLT, Nat.reduceEqDiff, Nat.reduceAdd, Nat.reduceMul, Nat.reduceSub, Nat.reduceLeDiff, Int.reduceToNat, Int.reduceNeg, Int.reduceLT, Int.reduceLE, Int.reduceEq, reduceCtorEq, Int.natCast_zero, Int.natCast_one, Int.cast_ofNat_Int, Bool.not_not, false_eq_decide, true_eq_decide, hread0, hreadk, read_cons0, read_consk, astore_h0, astore_hk, hget0, hgetk, hset0, hsetk, hlen, hcat, Nat.add_assoc, Nat.add_zero, Nat.zero_add, List.length_append, and_true, true_and, AV.flat, hb1, get_app hb1, read_get hb1, read_app hb1, *, -hK, -hkind, -n1, -s1] | with_reducible refine IfB_dec (fun h => ?_) (fun h => ?_) | with_reducible refine Guard_dec (fun h => ?_) (fun h => ?_) | with_reducible refine Guard_ndec (fun h => ?_) (fun h => ?_) | with_reducible refine Guard_not (fun h => ?_) (fun h => ?_) | with_reducible refine IfB_ndec (fun h => ?_) (fun h => ?_) | with_reducible refine IfB_not (fun h => ?_) (fun h => ?_) | with_reducible refine Guard_split (fun h => ?_) (fun h => ?_) | with_reducible refine IfB_split (fun h => ?_) (fun h => ?_))
    refine (nums_spec (m := m) _ _ _ [to] _ (g1.own.keep0 (Keep.app none H1 [(⟨[.int .i64 to], 1, .full⟩ : Blk)])) (by simp; omega) (get_vs (by rw [hget0]; rfl) rfl rfl) (fun b hb e => by have := hr1 b e; simp [AV.blk] at hb; omega) (by simp at s1 ⊢; omega)).mono ?_
    intro r3 H3 g3
    rw [num1 (x := to) (by omega) (by omega)] at g3
    have hb3 := g3.keep.get (get_app hb1 _) (fun e => (hr1 _ e).2 rfl)
    have g3' := Grow.trans g1' (Grow.pre (Keep.app none H1 _) g3)
    have t1 := numsL_len [to]
    rw [num1 (x := to) (by omega) (by omega)] at t1
    simp only [List.length_cons, List.length_nil] at t1
    cases prim
    · repeat' (first | simp only [go_sem, Nat.reduceLT, Nat.reduceEqDiff, Nat.reduceAdd, Nat.reduceMul, Nat.reduceSub, Nat.reduceLeDiff, Int.reduceToNat, Int.reduceNeg, Int.reduceLT, Int.reduceLE, Int.reduceEq, reduceCtorEq, Int.natCast_zero, Int.natCast_one, Int.cast_ofNat_Int, Bool.not_not, false_eq_decide, true_eq_decide, hread0, hreadk, read_cons0, read_consk, astore_h0, astore_hk, hget0, hgetk, hset0, hsetk, hlen, hcat, Nat.add_assoc, Nat.add_zero, Nat.zero_add, List.length_append, and_true, true_and, AV.flat, hb3, get_app hb3, read_get hb3, read_app hb3, *, -hK, -hkind, -n1, -s1] | with_reducible refine IfB_dec (fun h => ?_) (fun h => ?_) | with_reducible refine Guard_dec (fun h => ?_) (fun h => ?_) | with_reducible refine Guard_ndec (fun h => ?_) (fun h => ?_) | with_reducible refine Guard_not (fun h => ?_) (fun h => ?_) | with_reducible refine IfB_ndec (fun h => ?_) (fun h => ?_) | with_reducible refine IfB_not (fun h => ?_) (fun h => ?_) | with_reducible refine Guard_split (fun h => ?_) (fun h => ?_) | with_reducible refine IfB_split (fun h => ?_) (fun h => ?_))
      refine append_gr (m := m) (g3.own.keep0 (Keep.app none H3 [(⟨[.int .u8 0], 1, .full⟩ : Blk)])) se30 az5 td5 rfl (r := [0]) (Bs.src (l := [0]) (get_vs (by rw [hget0]; rfl) rfl rfl) tk30) (by simp; omega) (by have := g3.keep.len; simp at this ⊢; omega) ?_
      intro r4 H4 g4
      have g4' := g3'.trans (Grow.pre (Keep.app none H3 _) g4)
      repeat' (first | simp only [go_sem, Nat.reduceLT, Nat.reduceEqDiff, Nat.reduceAdd, Nat.reduceMul, Nat.reduceSub, Nat.reduceLeDiff, Int.reduceToNat, Int.reduceNeg, Int.reduceLT, Int.reduceLE, Int.reduceEq, reduceCtorEq, Int.natCast_zero, Int.natCast_one, Int.cast_ofNat_Int, Bool.not_not, false_eq_decide, true_eq_decide, hread0, hreadk, read_cons0, read_consk, astore_h0, astore_hk, hget0, hgetk, hset0, hsetk, hlen, hcat, Nat.add_assoc, Nat.add_zero, Nat.zero_add, List.length_append, and_true, true_and, AV.flat, *, -hK, -hkind, -n1, -s1] | with_reducible refine IfB_dec (fun h => ?_) (fun h => ?_) | with_reducible refine Guard_dec (fun h => ?_) (fun h => ?_) | with_reducible refine Guard_ndec (fun h => ?_) (fun h => ?_) | with_reducible refine Guard_not (fun h => ?_) (fun h => ?_) | with_reducible refine IfB_ndec (fun h => ?_) (fun h => ?_) | with_reducible refine IfB_not (fun h => ?_) (fun h => ?_) | with_reducible refine Guard_split (fun h => ?_) (fun h => ?_) | with_reducible refine IfB_split (fun h => ?_) (fun h => ?_))
      refine hK _ _ (g4'.eq ?_)
      simp
    · repeat' (first | simp only [go_sem, Nat.reduceLT, Nat.reduceEqDiff, Nat.reduceAdd, Nat.reduceMul, Nat.reduceSub, Nat.reduceLeDiff, Int.reduceToNat, Int.reduceNeg, Int.reduceLT, Int.reduceLE, Int.reduceEq, reduceCtorEq, Int.natCast_zero, Int.natCast_one, Int.cast_ofNat_Int, Bool.not_not, false_eq_decide, true_eq_decide, hread0, hreadk, read_cons0, read_consk, astore_h0, astore_hk, hget0, hgetk, hset0, hsetk, hlen, hcat, Nat.add_assoc, Nat.add_zero, Nat.zero_add, List.length_append, and_true, true_and, AV.flat, hb3, get_app hb3, read_get hb3, read_app hb3, *, -hK, -hkind, -n1, -s1] | with_reducible refine IfB_dec (fun h => ?_) (fun h => ?_) | with_reducible refine Guard_dec (fun h => ?_) (fun h => ?_) | with_reducible refine Guard_ndec (fun h => ?_) (fun h => ?_) | with_reducible refine Guard_not (fun h => ?_) (fun h => ?_) | with_reducible refine IfB_ndec (fun h => ?_) (fun h => ?_) | with_reducible refine IfB_not (fun h => ?_) (fun h => ?_) | with_reducible refine Guard_split (fun h => ?_) (fun h => ?_) | with_reducible refine IfB_split (fun h => ?_) (fun h => ?_))
      refine append_gr (m := m) (g3.own.keep0 (Keep.app none H3 [(⟨[.int .u8 1], 1, .full⟩ : Blk)])) se30 az5 td5 rfl (r := [1]) (Bs.src (l := [1]) (get_vs (by rw [hget0]; rfl) rfl rfl) tk30) (by simp; omega) (by have := g3.keep.len; simp at this ⊢; omega) ?_
      intro r4 H4 g4
      have g4' := g3'.trans (Grow.pre (Keep.app none H3 _) g4)
      repeat' (first | simp only [go_sem, Nat.reduceLT, Nat.reduceEqDiff, Nat.reduceAdd, Nat.reduceMul, Nat.reduceSub, Nat.reduceLeDiff, Int.reduceToNat, Int.reduceNeg, Int.reduceLT, Int.reduceLE, Int.reduceEq, reduceCtorEq, Int.natCast_zero, Int.natCast_one, Int.cast_ofNat_Int, Bool.not_not, false_eq_decide, true_eq_decide, hread0, hreadk, read_cons0, read_consk, astore_h0, astore_hk, hget0, hgetk, hset0, hsetk, hlen, hcat, Nat.add_assoc, Nat.add_zero, Nat.zero_add, List.length_append, and_true, true_and, AV.flat, *, -hK, -hkind, -n1, -s1] | with_reducible refine IfB_dec (fun h => ?_) (fun h => ?_) | with_reducible refine Guard_dec (fun h => ?_) (fun h => ?_) | with_reducible refine Guard_ndec (fun h => ?_) (fun h => ?_) | with_reducible refine Guard_not (fun h => ?_) (fun h => ?_) | with_reducible refine IfB_ndec (fun h => ?_) (fun h => ?_) | with_reducible refine IfB_not (fun h => ?_) (fun h => ?_) | with_reducible refine Guard_split (fun h => ?_) (fun h => ?_) | with_reducible refine IfB_split (fun h => ?_) (fun h => ?_))
      refine hK _ _ (g4'.eq ?_)
      simp
  by_cases k2 : kind = 2
  · subst k2
    clear su hfl
    simp only [Chg.putL, Int.reduceEq, if_true, if_false] at hK h4
    refine WC_of_body hT Try.func57 rfl (by simp [Try.f57]) (by simp [Try.f57]) (wx_sound hT _ ?_)
    simp only [Try.f57]
    repeat' (first | simp only [go_sem, Nat.reduceLT, Nat.reduceEqDiff, Nat.reduceAdd, Nat.reduceMul, Nat.reduceSub, Nat.reduceLeDiff, Int.reduceToNat, Int.reduceNeg, Int.reduceLT, Int.reduceLE, Int.reduceEq, reduceCtorEq, Int.natCast_zero, Int.natCast_one, Int.cast_ofNat_Int, Bool.not_not, false_eq_decide, true_eq_decide, hread0, hreadk, read_cons0, read_consk, astore_h0, astore_hk, hget0, hgetk, hset0, hsetk, hlen, hcat, Nat.add_assoc, Nat.add_zero, Nat.zero_add, List.length_append, and_true, true_and, AV.flat, *, -hK, -hkind] | with_reducible refine IfB_dec (fun h => ?_) (fun h => ?_) | with_reducible refine Guard_dec (fun h => ?_) (fun h => ?_) | with_reducible refine Guard_ndec (fun h => ?_) (fun h => ?_) | with_reducible refine Guard_not (fun h => ?_) (fun h => ?_) | with_reducible refine IfB_ndec (fun h => ?_) (fun h => ?_) | with_reducible refine IfB_not (fun h => ?_) (fun h => ?_) | with_reducible refine Guard_split (fun h => ?_) (fun h => ?_) | with_reducible refine IfB_split (fun h => ?_) (fun h => ?_))
    have ov : Ob m (H ++ [(⟨[.int .u8 2, .int .i64 ten, .str ikey, .str ival, .int .u32 ifl, .int .i64 idue, .int .u64 iuniq, .str key, .int .u8 why, .int .i64 to, .bool prim], 0, .full⟩ : Blk), ⟨[.int .u8 2], 1, .full⟩]) v bs := hv.keep0 (Keep.app _ _ _)
    have kb : Bs (H ++ [(⟨[.int .u8 2, .int .i64 ten, .str ikey, .str ival, .int .u32 ifl, .int .i64 idue, .int .u64 iuniq, .str key, .int .u8 why, .int .i64 to, .bool prim], 0, .full⟩ : Blk), ⟨[.int .u8 2], 1, .full⟩]) (.sl (H.length + 1) 0 1 none) [UInt8.ofNat (Int.toNat 2)] := get_vs (by rw [hgetk, hkind]; rfl) rfl rfl
    refine append_gr (m := m) ov se30 az5 td5 rfl (kb.src tk30) (by simp; omega) (by simp; omega) ?_
    intro r1 H1 g1
    have hvb : ∀ b, v.blk = some b → b < H.length := fun b hb => hv.lt hb
    have hb1 := g1.keep.get (b := H.length) (B := ⟨[.int .u8 2, .int .i64 ten, .str ikey, .str ival, .int .u32 ifl, .int .i64 idue, .int .u64 iuniq, .str key, .int .u8 why, .int .i64 to, .bool prim], 0, .full⟩) (by rw [hget0]; rfl) (fun e => by have := hvb _ e; omega)
    have hl1 : H.length + 2 ≤ H1.length := by have := g1.keep.len; simpa using this
    have hr1 := g1.off (p := H.length) (fun b hb => by have := hvb b hb; simp; omega) (by simp)
    have g1' := Grow.pre (Keep.app none H _) g1
    repeat' (first | simp only [go_sem, Nat.reduceLT, Nat.reduceEqDiff, Nat.reduceAdd, Nat.reduceMul, Nat.reduceSub, Nat.reduceLeDiff, Int.reduceToNat, Int.reduceNeg, Int.reduceLT, Int.reduceLE, Int.reduceEq, reduceCtorEq, Int.natCast_zero, Int.natCast_one, Int.cast_ofNat_Int, Bool.not_not, false_eq_decide, true_eq_decide, hread0, hreadk, read_cons0, read_consk, astore_h0, astore_hk, hget0, hgetk, hset0, hsetk, hlen, hcat, Nat.add_assoc, Nat.add_zero, Nat.zero_add, List.length_append, and_true, true_and, AV.flat, hb1, get_app hb1, read_get hb1, read_app hb1, *, -hK, -hkind, -n1, -s1] | with_reducible refine IfB_dec (fun h => ?_) (fun h => ?_) | with_reducible refine Guard_dec (fun h => ?_) (fun h => ?_) | with_reducible refine Guard_ndec (fun h => ?_) (fun h => ?_) | with_reducible refine Guard_not (fun h => ?_) (fun h => ?_) | with_reducible refine IfB_ndec (fun h => ?_) (fun h => ?_) | with_reducible refine IfB_not (fun h => ?_) (fun h => ?_) | with_reducible refine Guard_split (fun h => ?_) (fun h => ?_) | with_reducible refine IfB_split (fun h => ?_) (fun h => ?_))
    refine (nums_spec (m := m) _ _ _ [ten] _ (g1.own.keep0 (Keep.app none H1 [(⟨[.int .i64 ten], 1, .full⟩ : Blk)])) (by simp; omega) (get_vs (by rw [hget0]; rfl) rfl rfl) (fun b hb e => by have := hr1 b e; simp [AV.blk] at hb; omega) (by simp; omega)).mono ?_
    intro r2 H2 g2
    rw [n1] at g2
    have hb2 := g2.keep.get (get_app hb1 _) (fun e => (hr1 _ e).2 rfl)
    have hl2 : H1.length + 1 ≤ H2.length := by have := g2.keep.len; simpa using this
    have hr2 := g2.off (p := H.length) (fun b hb => by have := hr1 b hb; simp; omega) (by simp; omega)
    have g2' := g1'.trans (Grow.pre (Keep.app none H1 _) g2)
    repeat' (first | simp only [go_sem, Nat.reduceLT, Nat.reduceEqDiff, Nat.reduceAdd, Nat.reduceMul, Nat.reduceSub, Nat.reduceLeDiff, Int.reduceToNat, Int.reduceNeg, Int.reduceLT, Int.reduceLE, Int.reduceEq, reduceCtorEq, Int.natCast_zero, Int.natCast_one, Int.cast_ofNat_Int, Bool.not_not, false_eq_decide, true_eq_decide, hread0, hreadk, read_cons0, read_consk, astore_h0, astore_hk, hget0, hgetk, hset0, hsetk, hlen, hcat, Nat.add_assoc, Nat.add_zero, Nat.zero_add, List.length_append, and_true, true_and, AV.flat, hb2, get_app hb2, read_get hb2, read_app hb2, *, -hK, -hkind, -n1, -s1, -hwhy] | with_reducible refine IfB_dec (fun h => ?_) (fun h => ?_) | with_reducible refine Guard_dec (fun h => ?_) (fun h => ?_) | with_reducible refine Guard_ndec (fun h => ?_) (fun h => ?_) | with_reducible refine Guard_not (fun h => ?_) (fun h => ?_) | with_reducible refine IfB_ndec (fun h => ?_) (fun h => ?_) | with_reducible refine IfB_not (fun h => ?_) (fun h => ?_) | with_reducible refine Guard_split (fun h => ?_) (fun h => ?_) | with_reducible refine IfB_split (fun h => ?_) (fun h => ?_))
    refine WX_rows hT hmix [(0, none), (1, none), (2, none), (3, none), (5, none), (6, none), (7, none), (4, some [false, false, false, true, true, true, true]), (8, some [true, true, true, true, true, true, true, true]), (9, none)] (by kernel_rfl) ?_
    repeat' (first | simp only [go_sem, Nat.reduceLT, Nat.reduceEqDiff, Nat.reduceAdd, Nat.reduceMul, Nat.reduceSub, Nat.reduceLeDiff, Int.reduceToNat, Int.reduceNeg, Int.reduceLT, Int.reduceLE, Int.reduceEq, reduceCtorEq, Int.natCast_zero, Int.natCast_one, Int.cast_ofNat_Int, Bool.not_not, false_eq_decide, true_eq_decide, hread0, hreadk, read_cons0, read_consk, astore_h0, astore_hk, hget0, hgetk, hset0, hsetk, hlen, hcat, Nat.add_assoc, Nat.add_zero, Nat.zero_add, List.length_append, and_true, true_and, AV.flat, hb2, get_app hb2, read_get hb2, read_app hb2, *, -hK, -hkind, -n1, -s1, -hwhy] | with_reducible refine IfB_dec (fun h => ?_) (fun h => ?_) | with_reducible refine Guard_dec (fun h => ?_) (fun h => ?_) | with_reducible refine Guard_ndec (fun h => ?_) (fun h => ?_) | with_reducible refine Guard_not (fun h => ?_) (fun h => ?_) | with_reducible refine IfB_ndec (fun h => ?_) (fun h => ?_) | with_reducible refine IfB_not (fun h => ?_) (fun h => ?_) | with_reducible refine Guard_split (fun h => ?_) (fun h => ?_) | with_reducible refine IfB_split (fun h => ?_) (fun h => ?_))
    have tl := textsL_len (l := [key]) (m := 32) (by simp; omega) (by omega)
    simp only [List.length_cons, List.length_nil] at tl
    refine (texts_spec (m := m) _ _ _ [key] _ (g2.own.keep0 (Keep.app none H2 [(⟨[.str key], 1, .full⟩ : Blk), ⟨[.int .u8 why], 1, .full⟩])) (by simp; omega) (get_vs (by rw [hget0]; rfl) rfl rfl) (fun b hb e => by have := hr2 b e; simp [AV.blk] at hb; omega) (by simp; omega) (by simp)).mono ?_
    intro r3 H3 g3
    have hw : H3[H2.length + 1]? = some ⟨[.int .u8 why], 1, .full⟩ := g3.keep.get (by rw [hgetk]; rfl) (fun e => by have := hr2 _ e; omega)
    have hw0 : H3[H2.length]? = some ⟨[.str key], 1, .full⟩ := g3.keep.get (by rw [hget0]; rfl) (fun e => by have := hr2 _ e; omega)
    have hb3 := g3.keep.get (get_app hb2 _) (fun e => (hr2 _ e).2 rfl)
    have hl3 : H2.length + 2 ≤ H3.length := by have := g3.keep.len; simpa using this
    have g3' := g2'.trans (Grow.pre (Keep.app none H2 _) g3)
    repeat' (first | simp only [go_sem, Nat.reduceLT, Nat.reduceEqDiff, Nat.reduceAdd, Nat.reduceMul, Nat.reduceSub, Nat.reduceLeDiff, Int.reduceToNat, Int.reduceNeg, Int.reduceLT, Int.reduceLE, Int.reduceEq, reduceCtorEq, Int.natCast_zero, Int.natCast_one, Int.cast_ofNat_Int, Bool.not_not, false_eq_decide, true_eq_decide, hread0, hreadk, read_cons0, read_consk, astore_h0, astore_hk, hget0, hgetk, hset0, hsetk, hlen, hcat, Nat.add_assoc, Nat.add_zero, Nat.zero_add, List.length_append, and_true, true_and, AV.flat, hb3, get_app hb3, read_get hb3, read_app hb3, *, -hK, -hkind, -n1, -s1, -hwhy] | with_reducible refine IfB_dec (fun h => ?_) (fun h => ?_) | with_reducible refine Guard_dec (fun h => ?_) (fun h => ?_) | with_reducible refine Guard_ndec (fun h => ?_) (fun h => ?_) | with_reducible refine Guard_not (fun h => ?_) (fun h => ?_) | with_reducible refine IfB_ndec (fun h => ?_) (fun h => ?_) | with_reducible refine IfB_not (fun h => ?_) (fun h => ?_) | with_reducible refine Guard_split (fun h => ?_) (fun h => ?_) | with_reducible refine IfB_split (fun h => ?_) (fun h => ?_))
    refine append_gr (m := m) g3.own se30 az5 td5 rfl (r := [UInt8.ofNat why.toNat]) (Bs.src (l := [UInt8.ofNat why.toNat]) (get_vs (by rw [hw, hwhy]) rfl rfl) tk30) (by simp; omega) (by omega) ?_
    intro r4 H4 g4
    have hw4 : H4[H2.length + 1]? = some ⟨[.int .u8 why], 1, .full⟩ := g4.keep.get hw (fun e => by rcases g3.new _ e with h | h; exact absurd h (fun h => by have := hr2 _ h; omega); simp at h)
    have hr3 := g3.off (p := H.length) (fun b hb => by have := hr2 b hb; simp; omega) (by simp <;> omega)
    have hb4 := g4.keep.get hb3 (fun e => (hr3 _ e).2 rfl)
    repeat' (first | simp only [go_sem, Nat.reduceLT, Nat.reduceEqDiff, Nat.reduceAdd, Nat.reduceMul, Nat.reduceSub, Nat.reduceLeDiff, Int.reduceToNat, Int.reduceNeg, Int.reduceLT, Int.reduceLE, Int.reduceEq, reduceCtorEq, Int.natCast_zero, Int.natCast_one, Int.cast_ofNat_Int, Bool.not_not, false_eq_decide, true_eq_decide, hread0, hreadk, read_cons0, read_consk, astore_h0, astore_hk, hget0, hgetk, hset0, hsetk, hlen, hcat, Nat.add_assoc, Nat.add_zero, Nat.zero_add, List.length_append, and_true, true_and, AV.flat, hb4, get_app hb4, read_get hb4, read_app hb4, *, -hK, -hkind, -n1, -s1, -hwhy] | with_reducible refine IfB_dec (fun h => ?_) (fun h => ?_) | with_reducible refine Guard_dec (fun h => ?_) (fun h => ?_) | with_reducible refine Guard_ndec (fun h => ?_) (fun h => ?_) | with_reducible refine Guard_not (fun h => ?_) (fun h => ?_) | with_reducible refine IfB_ndec (fun h => ?_) (fun h => ?_) | with_reducible refine IfB_not (fun h => ?_) (fun h => ?_) | with_reducible refine Guard_split (fun h => ?_) (fun h => ?_) | with_reducible refine IfB_split (fun h => ?_) (fun h => ?_))
    refine hK _ _ ((g3'.trans g4).eq ?_)
    simp [textsL]
  have k1 : kind = 1 := by omega
  subst k1
  clear hwhy k2 k3 k4 k5 k6 k7
  simp only [Chg.putL, Int.reduceEq, if_true, if_false] at hK h4
  refine WC_of_body hT Try.func57 rfl (by simp [Try.f57]) (by simp [Try.f57]) (wx_sound hT _ ?_)
  simp only [Try.f57]
  repeat' (first | simp only [go_sem, Nat.reduceLT, Nat.reduceEqDiff, Nat.reduceAdd, Nat.reduceMul, Nat.reduceSub, Nat.reduceLeDiff, Int.reduceToNat, Int.reduceNeg, Int.reduceLT, Int.reduceLE, Int.reduceEq, reduceCtorEq, Int.natCast_zero, Int.natCast_one, Int.cast_ofNat_Int, Bool.not_not, false_eq_decide, true_eq_decide, hread0, hreadk, read_cons0, read_consk, astore_h0, astore_hk, hget0, hgetk, hset0, hsetk, hlen, hcat, Nat.add_assoc, Nat.add_zero, Nat.zero_add, List.length_append, and_true, true_and, AV.flat, *, -hK, -hkind] | with_reducible refine IfB_dec (fun h => ?_) (fun h => ?_) | with_reducible refine Guard_dec (fun h => ?_) (fun h => ?_) | with_reducible refine Guard_ndec (fun h => ?_) (fun h => ?_) | with_reducible refine Guard_not (fun h => ?_) (fun h => ?_) | with_reducible refine IfB_ndec (fun h => ?_) (fun h => ?_) | with_reducible refine IfB_not (fun h => ?_) (fun h => ?_) | with_reducible refine Guard_split (fun h => ?_) (fun h => ?_) | with_reducible refine IfB_split (fun h => ?_) (fun h => ?_))
  have ov : Ob m (H ++ [(⟨[.int .u8 1, .int .i64 ten, .str ikey, .str ival, .int .u32 ifl, .int .i64 idue, .int .u64 iuniq, .str key, .int .u8 why, .int .i64 to, .bool prim], 0, .full⟩ : Blk), ⟨[.int .u8 1], 1, .full⟩]) v bs := hv.keep0 (Keep.app _ _ _)
  have kb : Bs (H ++ [(⟨[.int .u8 1, .int .i64 ten, .str ikey, .str ival, .int .u32 ifl, .int .i64 idue, .int .u64 iuniq, .str key, .int .u8 why, .int .i64 to, .bool prim], 0, .full⟩ : Blk), ⟨[.int .u8 1], 1, .full⟩]) (.sl (H.length + 1) 0 1 none) [UInt8.ofNat (Int.toNat 1)] := get_vs (by rw [hgetk, hkind]; rfl) rfl rfl
  refine append_gr (m := m) ov se30 az5 td5 rfl (kb.src tk30) (by simp; omega) (by simp; omega) ?_
  intro r1 H1 g1
  have hvb : ∀ b, v.blk = some b → b < H.length := fun b hb => hv.lt hb
  have hb1 := g1.keep.get (b := H.length) (B := ⟨[.int .u8 1, .int .i64 ten, .str ikey, .str ival, .int .u32 ifl, .int .i64 idue, .int .u64 iuniq, .str key, .int .u8 why, .int .i64 to, .bool prim], 0, .full⟩) (by rw [hget0]; rfl) (fun e => by have := hvb _ e; omega)
  have hl1 : H.length + 2 ≤ H1.length := by have := g1.keep.len; simpa using this
  have hr1 := g1.off (p := H.length) (fun b hb => by have := hvb b hb; simp; omega) (by simp)
  have g1' := Grow.pre (Keep.app none H _) g1
  repeat' (first | simp only [go_sem, Nat.reduceLT, Nat.reduceEqDiff, Nat.reduceAdd, Nat.reduceMul, Nat.reduceSub, Nat.reduceLeDiff, Int.reduceToNat, Int.reduceNeg, Int.reduceLT, Int.reduceLE, Int.reduceEq, reduceCtorEq, Int.natCast_zero, Int.natCast_one, Int.cast_ofNat_Int, Bool.not_not, false_eq_decide, true_eq_decide, hread0, hreadk, read_cons0, read_consk, astore_h0, astore_hk, hget0, hgetk, hset0, hsetk, hlen, hcat, Nat.add_assoc, Nat.add_zero, Nat.zero_add, List.length_append, and_true, true_and, AV.flat, hb1, get_app hb1, read_get hb1, read_app hb1, *, -hK, -hkind, -n1, -s1] | with_reducible refine IfB_dec (fun h => ?_) (fun h => ?_) | with_reducible refine Guard_dec (fun h => ?_) (fun h => ?_) | with_reducible refine Guard_ndec (fun h => ?_) (fun h => ?_) | with_reducible refine Guard_not (fun h => ?_) (fun h => ?_) | with_reducible refine IfB_ndec (fun h => ?_) (fun h => ?_) | with_reducible refine IfB_not (fun h => ?_) (fun h => ?_) | with_reducible refine Guard_split (fun h => ?_) (fun h => ?_) | with_reducible refine IfB_split (fun h => ?_) (fun h => ?_))
  refine (nums_spec (m := m) _ _ _ [ten] _ (g1.own.keep0 (Keep.app none H1 [(⟨[.int .i64 ten], 1, .full⟩ : Blk)])) (by simp; omega) (get_vs (by rw [hget0]; rfl) rfl rfl) (fun b hb e => by have := hr1 b e; simp [AV.blk] at hb; omega) (by simp; omega)).mono ?_
  intro r2 H2 g2
  rw [n1] at g2
  have hb2 := g2.keep.get (get_app hb1 _) (fun e => (hr1 _ e).2 rfl)
  have hl2 : H1.length + 1 ≤ H2.length := by have := g2.keep.len; simpa using this
  have hr2 := g2.off (p := H.length) (fun b hb => by have := hr1 b hb; simp; omega) (by simp; omega)
  have g2' := g1'.trans (Grow.pre (Keep.app none H1 _) g2)
  repeat' (first | simp only [go_sem, Nat.reduceLT, Nat.reduceEqDiff, Nat.reduceAdd, Nat.reduceMul, Nat.reduceSub, Nat.reduceLeDiff, Int.reduceToNat, Int.reduceNeg, Int.reduceLT, Int.reduceLE, Int.reduceEq, reduceCtorEq, Int.natCast_zero, Int.natCast_one, Int.cast_ofNat_Int, Bool.not_not, false_eq_decide, true_eq_decide, hread0, hreadk, read_cons0, read_consk, astore_h0, astore_hk, hget0, hgetk, hset0, hsetk, hlen, hcat, Nat.add_assoc, Nat.add_zero, Nat.zero_add, List.length_append, and_true, true_and, AV.flat, hb2, get_app hb2, read_get hb2, read_app hb2, *, -hK, -hkind, -n1, -s1, -hfl, -su] | with_reducible refine IfB_dec (fun h => ?_) (fun h => ?_) | with_reducible refine Guard_dec (fun h => ?_) (fun h => ?_) | with_reducible refine Guard_ndec (fun h => ?_) (fun h => ?_) | with_reducible refine Guard_not (fun h => ?_) (fun h => ?_) | with_reducible refine IfB_ndec (fun h => ?_) (fun h => ?_) | with_reducible refine IfB_not (fun h => ?_) (fun h => ?_) | with_reducible refine Guard_split (fun h => ?_) (fun h => ?_) | with_reducible refine IfB_split (fun h => ?_) (fun h => ?_))
  refine WX_rows hT hmix [(0, none), (1, none), (2, none), (3, none), (4, none), (5, none), (6, none), (7, none), (9, none), (10, none), (11, none), (12, none), (13, none), (14, none), (15, none), (16, none), (8, some [false, false, false, false, false, false, false, false, true, true, true, true, true, true, true, true]), (17, some [true, true, true, true, true, true, true, true, true, true, true, true, true, true, true, true, true]), (18, none)] (by kernel_rfl) ?_
  repeat' (first | simp only [go_sem, Nat.reduceLT, Nat.reduceEqDiff, Nat.reduceAdd, Nat.reduceMul, Nat.reduceSub, Nat.reduceLeDiff, Int.reduceToNat, Int.reduceNeg, Int.reduceLT, Int.reduceLE, Int.reduceEq, reduceCtorEq, Int.natCast_zero, Int.natCast_one, Int.cast_ofNat_Int, Bool.not_not, false_eq_decide, true_eq_decide, hread0, hreadk, read_cons0, read_consk, astore_h0, astore_hk, hget0, hgetk, hset0, hsetk, hlen, hcat, Nat.add_assoc, Nat.add_zero, Nat.zero_add, List.length_append, and_true, true_and, AV.flat, hb2, get_app hb2, read_get hb2, read_app hb2, *, -hK, -hkind, -n1, -s1, -hfl, -su] | with_reducible refine IfB_dec (fun h => ?_) (fun h => ?_) | with_reducible refine Guard_dec (fun h => ?_) (fun h => ?_) | with_reducible refine Guard_ndec (fun h => ?_) (fun h => ?_) | with_reducible refine Guard_not (fun h => ?_) (fun h => ?_) | with_reducible refine IfB_ndec (fun h => ?_) (fun h => ?_) | with_reducible refine IfB_not (fun h => ?_) (fun h => ?_) | with_reducible refine Guard_split (fun h => ?_) (fun h => ?_) | with_reducible refine IfB_split (fun h => ?_) (fun h => ?_))
  rw [hfl]
  have tl := textsL_len (l := [ikey, ival]) (m := 512) (by simp; omega) (by omega)
  simp only [List.length_cons, List.length_nil] at tl
  refine (texts_spec (m := m) _ _ _ [ikey, ival] _ (g2.own.keep0 (Keep.app none H2 [(⟨[.str ikey, .str ival], 1, .full⟩ : Blk), ⟨[.int .i64 ifl, .int .i64 idue], 1, .full⟩])) (by simp; omega) (get_vs (by rw [hget0]; rfl) rfl rfl) (fun b hb e => by have := hr2 b e; simp [AV.blk] at hb; omega) (by simp at s1 ⊢; omega) (by simp)).mono ?_
  intro r3 H3 g3
  have hw : H3[H2.length + 1]? = some ⟨[.int .i64 ifl, .int .i64 idue], 1, .full⟩ := g3.keep.get (by rw [hgetk]; rfl) (fun e => by have := hr2 _ e; omega)
  have hw0 : H3[H2.length]? = some ⟨[.str ikey, .str ival], 1, .full⟩ := g3.keep.get (by rw [hget0]; rfl) (fun e => by have := hr2 _ e; omega)
  have hb3 := g3.keep.get (get_app hb2 _) (fun e => (hr2 _ e).2 rfl)
  have hl3 : H2.length + 2 ≤ H3.length := by have := g3.keep.len; simpa using this
  have g3' := g2'.trans (Grow.pre (Keep.app none H2 _) g3)
  have hr3 := g3.off (p := H.length) (fun b hb => by have := hr2 b hb; simp; omega) (by simp; omega)
  have hr3' := g3.off (p := H2.length + 1) (fun b hb => by have := hr2 b hb; simp; omega) (by simp)
  repeat' (first | simp only [go_sem, Nat.reduceLT, Nat.reduceEqDiff, Nat.reduceAdd, Nat.reduceMul, Nat.reduceSub, Nat.reduceLeDiff, Int.reduceToNat, Int.reduceNeg, Int.reduceLT, Int.reduceLE, Int.reduceEq, reduceCtorEq, Int.natCast_zero, Int.natCast_one, Int.cast_ofNat_Int, Bool.not_not, false_eq_decide, true_eq_decide, hread0, hreadk, read_cons0, read_consk, astore_h0, astore_hk, hget0, hgetk, hset0, hsetk, hlen, hcat, Nat.add_assoc, Nat.add_zero, Nat.zero_add, List.length_append, and_true, true_and, AV.flat, hb3, get_app hb3, read_get hb3, read_app hb3, *, -hK, -hkind, -n1, -s1, -hfl, -su] | with_reducible refine IfB_dec (fun h => ?_) (fun h => ?_) | with_reducible refine Guard_dec (fun h => ?_) (fun h => ?_) | with_reducible refine Guard_ndec (fun h => ?_) (fun h => ?_) | with_reducible refine Guard_not (fun h => ?_) (fun h => ?_) | with_reducible refine IfB_ndec (fun h => ?_) (fun h => ?_) | with_reducible refine IfB_not (fun h => ?_) (fun h => ?_) | with_reducible refine Guard_split (fun h => ?_) (fun h => ?_) | with_reducible refine IfB_split (fun h => ?_) (fun h => ?_))
  refine (nums_spec (m := m) _ _ _ [ifl, idue] _ g3.own (by omega) (get_vs hw rfl rfl) (fun b hb e => by have := hr3' b e; simp [AV.blk] at hb; omega) (by simp at s1 ⊢; omega)).mono ?_
  intro r4 H4 g4
  have hb4 := g4.keep.get hb3 (fun e => (hr3 _ e).2 rfl)
  have hl4 := g4.keep.len
  have g4' := g3'.trans g4
  have nl := numsL_len [ifl, idue]
  simp only [List.length_cons, List.length_nil] at nl
  have hq : numsL [ifl, idue] = small ifl.toNat ++ small idue.toNat := by
    simp only [numsL, List.flatMap_cons, List.flatMap_nil, List.append_nil]
    rw [u64w_id hif.1 (by omega), u64w_id (show 0 ≤ idue by omega) (by omega)]
  have hwr4 : H4[H2.length + 1]? = some ⟨[.int .i64 ifl, .int .i64 idue], 1, .full⟩ := g4.keep.get hw (fun e => (hr3' _ e).2 rfl)
  repeat' (first | simp only [go_sem, Nat.reduceLT, Nat.reduceEqDiff, Nat.reduceAdd, Nat.reduceMul, Nat.reduceSub, Nat.reduceLeDiff, Int.reduceToNat, Int.reduceNeg, Int.reduceLT, Int.reduceLE, Int.reduceEq, reduceCtorEq, Int.natCast_zero, Int.natCast_one, Int.cast_ofNat_Int, Bool.not_not, false_eq_decide, true_eq_decide, hread0, hreadk, read_cons0, read_consk, astore_h0, astore_hk, hget0, hgetk, hset0, hsetk, hlen, hcat, Nat.add_assoc, Nat.add_zero, Nat.zero_add, List.length_append, and_true, true_and, AV.flat, hb4, get_app hb4, read_get hb4, read_app hb4, *, -hK, -hkind, -n1, -s1, -hfl, -su, -hq] | refine WC.call (su _) ?_ | with_reducible refine IfB_dec (fun h => ?_) (fun h => ?_) | with_reducible refine Guard_dec (fun h => ?_) (fun h => ?_) | with_reducible refine Guard_ndec (fun h => ?_) (fun h => ?_) | with_reducible refine Guard_not (fun h => ?_) (fun h => ?_) | with_reducible refine IfB_ndec (fun h => ?_) (fun h => ?_) | with_reducible refine IfB_not (fun h => ?_) (fun h => ?_) | with_reducible refine Guard_split (fun h => ?_) (fun h => ?_) | with_reducible refine IfB_split (fun h => ?_) (fun h => ?_))
  refine append_gr (m := m) g4.own se30 az5 td5 rfl (u8_src tk30) (by simp at s1 ⊢; omega) (by omega) ?_
  intro r5 H5 g5
  repeat' (first | simp only [go_sem, Nat.reduceLT, Nat.reduceEqDiff, Nat.reduceAdd, Nat.reduceMul, Nat.reduceSub, Nat.reduceLeDiff, Int.reduceToNat, Int.reduceNeg, Int.reduceLT, Int.reduceLE, Int.reduceEq, reduceCtorEq, Int.natCast_zero, Int.natCast_one, Int.cast_ofNat_Int, Bool.not_not, false_eq_decide, true_eq_decide, hread0, hreadk, read_cons0, read_consk, astore_h0, astore_hk, hget0, hgetk, hset0, hsetk, hlen, hcat, Nat.add_assoc, Nat.add_zero, Nat.zero_add, List.length_append, and_true, true_and, AV.flat, *, -hK, -hkind, -n1, -s1, -hfl, -su, -hq] | with_reducible refine IfB_dec (fun h => ?_) (fun h => ?_) | with_reducible refine Guard_dec (fun h => ?_) (fun h => ?_) | with_reducible refine Guard_ndec (fun h => ?_) (fun h => ?_) | with_reducible refine Guard_not (fun h => ?_) (fun h => ?_) | with_reducible refine IfB_ndec (fun h => ?_) (fun h => ?_) | with_reducible refine IfB_not (fun h => ?_) (fun h => ?_) | with_reducible refine Guard_split (fun h => ?_) (fun h => ?_) | with_reducible refine IfB_split (fun h => ?_) (fun h => ?_))
  refine hK _ _ ((g4'.trans g5).eq ?_)
  rw [hq]
  simp [textsL]
open Go Go.Proofs Go.Proofs.PI
/-! ### changes as bytes -/
theorem may_step {l : List Chg} {i : Nat} (h : i < l.length) : (l.take (i + 1)).all Chg.mayB = ((l.take i).all Chg.mayB && l[i].mayB) := by
  rw [List.take_succ_eq_append_getElem h, List.all_append]; simp
theorem put_step {l : List Chg} {i : Nat} (h : i < l.length) : (l.take (i + 1)).flatMap Chg.putL = (l.take i).flatMap Chg.putL ++ l[i].putL := by
  rw [List.take_succ_eq_append_getElem h, List.flatMap_append]; simp
theorem put_part (l : List Chg) (i : Nat) : ((l.take i).flatMap Chg.putL).length ≤ (l.flatMap Chg.putL).length := by
  conv => rhs; rw [← List.take_append_drop i l, List.flatMap_append, List.length_append]
  omega
theorem changes_own (l : List Chg) (hl : l.length ≤ 140737488355328) (ho : ∀ c ∈ l, c.Ok) (H : Heap) : WC Try.prog 30 [chgE.lst l] H fun r H' => (∃ b, r = .tup [b, .int .i64 (changesL l).2] ∧ Ob H.length H' b (changesL l).1) ∧ Keep none H H' := by
  refine WC_of_K fun K hK => ?_
  by_cases h1 : l.length > 4096
  · have i1 : (l.length : Int) > 4096 := by omega
    rw [show changesL l = ([], 4) by unfold changesL; rw [if_pos h1]] at hK
    clear h1
    refine WC_of_body hT Try.func30 rfl (by simp [Try.f30]) (by simp [Try.f30]) (wx_sound hT _ ?_)
    simp only [Try.f30]
    repeat' (first | simp only [go_sem, Nat.reduceLT, Nat.reduceEqDiff, Nat.reduceAdd, Nat.reduceMul, Nat.reduceSub, Nat.reduceLeDiff, Int.reduceToNat, Int.reduceNeg, Int.reduceLT, Int.reduceLE, Int.reduceEq, reduceCtorEq, Int.natCast_zero, Int.natCast_one, Int.cast_ofNat_Int, Bool.not_not, false_eq_decide, true_eq_decide, hread0, hreadk, read_cons0, read_consk, astore_h0, astore_hk, hget0, hgetk, hset0, hsetk, hlen, hcat, Nat.add_assoc, Nat.add_zero, Nat.zero_add, List.length_append, and_true, true_and, AV.flat, *, -hK] | with_reducible refine IfB_dec (fun h => ?_) (fun h => ?_) | with_reducible refine Guard_dec (fun h => ?_) (fun h => ?_) | with_reducible refine Guard_ndec (fun h => ?_) (fun h => ?_) | with_reducible refine Guard_not (fun h => ?_) (fun h => ?_) | with_reducible refine IfB_ndec (fun h => ?_) (fun h => ?_) | with_reducible refine IfB_not (fun h => ?_) (fun h => ?_) | with_reducible refine Guard_split (fun h => ?_) (fun h => ?_) | with_reducible refine IfB_split (fun h => ?_) (fun h => ?_))
    exact hK _ _ ⟨⟨_, rfl, Ob.nils _ _⟩, Keep.refl _ _⟩
  have i1 : ¬ (l.length : Int) > 4096 := by omega
  refine WC_of_body hT Try.func30 rfl (by simp [Try.f30]) (by simp [Try.f30]) (wx_sound hT _ ?_)
  simp only [Try.f30]
  repeat' (first | simp only [go_sem, Nat.reduceLT, Nat.reduceEqDiff, Nat.reduceAdd, Nat.reduceMul, Nat.reduceSub, Nat.reduceLeDiff, Int.reduceToNat, Int.reduceNeg, Int.reduceLT, Int.reduceLE, Int.reduceEq, reduceCtorEq, Int.natCast_zero, Int.natCast_one, Int.cast_ofNat_Int, Bool.not_not, false_eq_decide, true_eq_decide, hread0, hreadk, read_cons0, read_consk, astore_h0, astore_hk, hget0, hgetk, hset0, hsetk, hlen, hcat, Nat.add_assoc, Nat.add_zero, Nat.zero_add, List.length_append, and_true, true_and, AV.flat, *, -hK, -h1] | with_reducible refine IfB_dec (fun h => ?_) (fun h => ?_) | with_reducible refine Guard_dec (fun h => ?_) (fun h => ?_) | with_reducible refine Guard_ndec (fun h => ?_) (fun h => ?_) | with_reducible refine Guard_not (fun h => ?_) (fun h => ?_) | with_reducible refine IfB_ndec (fun h => ?_) (fun h => ?_) | with_reducible refine IfB_not (fun h => ?_) (fun h => ?_) | with_reducible refine Guard_split (fun h => ?_) (fun h => ?_) | with_reducible refine IfB_split (fun h => ?_) (fun h => ?_))
  refine WX_loopS [0, 12, 13] (fun k fr' H' => ∃ i : Nat, k = l.length - i ∧ i ≤ l.length ∧ fr'.get 14 = .int .i64 i ∧ (l.take i).all Chg.mayB = true ∧ Keep none H H') l.length ⟨0, rfl, by omega, by simp only [go_sem, Nat.reduceLT, Nat.reduceEqDiff, Nat.reduceAdd, Nat.reduceMul, Nat.reduceSub, Nat.reduceLeDiff, Int.reduceToNat, Int.reduceNeg, Int.reduceLT, Int.reduceLE, Int.reduceEq, reduceCtorEq]; rfl, by simp, Keep.refl _ _⟩ ?_
  rintro k fr' H1 A R hA hs hg hR ⟨i, rfl, hi, f14, hall, kk⟩
  have s0 := hg 0 (by decide)
  have s12 := hg 12 (by decide)
  have s13 := hg 13 (by decide)
  simp only [Fr.get_put, Fr.get_init, List.getD_cons_zero, List.getD_cons_succ, Nat.reduceEqDiff, if_true, if_false] at s0 s12 s13
  refine wx_sound hT _ ?_
  by_cases hlt : i < l.length
  · have e1 := at_enc (E := chgE) (T := T) (k := .i64) se56 hlt rfl
    have e3 := inc_id hlt hl
    have hlti : (i : Int) < l.length := by omega
    have sm := fun J => may_spec l[i] J
    unfold Chg.av at sm
    rw [chgE_cells] at e1
    cases hm : l[i].mayB with
    | true =>
      rw [hm] at sm
      repeat' (first | simp only [go_sem, Nat.reduceLT, Nat.reduceEqDiff, Nat.reduceAdd, Nat.reduceMul, Nat.reduceSub, Nat.reduceLeDiff, Int.reduceToNat, Int.reduceNeg, Int.reduceLT, Int.reduceLE, Int.reduceEq, reduceCtorEq, Int.natCast_zero, Int.natCast_one, Int.cast_ofNat_Int, Bool.not_not, false_eq_decide, true_eq_decide, hread0, hreadk, read_cons0, read_consk, astore_h0, astore_hk, hget0, hgetk, hset0, hsetk, hlen, hcat, Nat.add_assoc, Nat.add_zero, Nat.zero_add, List.length_append, and_true, true_and, AV.flat, *, -hK, -hall, -sm, -hm, -h1] | refine WC.call (sm _) ?_ | with_reducible refine IfB_dec (fun h => ?_) (fun h => ?_) | with_reducible refine Guard_dec (fun h => ?_) (fun h => ?_) | with_reducible refine Guard_ndec (fun h => ?_) (fun h => ?_) | with_reducible refine Guard_not (fun h => ?_) (fun h => ?_) | with_reducible refine IfB_ndec (fun h => ?_) (fun h => ?_) | with_reducible refine IfB_not (fun h => ?_) (fun h => ?_) | with_reducible refine Guard_split (fun h => ?_) (fun h => ?_) | with_reducible refine IfB_split (fun h => ?_) (fun h => ?_))
      exact hR _ _ (by (repeat (first | exact hs | refine hA _ _ _ (by decide) ?_))) (l.length - (i + 1)) (by omega) ⟨i + 1, rfl, by omega, by simp only [go_sem, Nat.reduceLT, Nat.reduceEqDiff, Nat.reduceAdd, Nat.reduceMul, Nat.reduceSub, Nat.reduceLeDiff, Int.reduceToNat, Int.reduceNeg, Int.reduceLT, Int.reduceLE, Int.reduceEq, reduceCtorEq], by rw [may_step hlt, hall, hm]; rfl, kk.trans (Keep.app _ _ _)⟩
    | false =>
      rw [hm] at sm
      have hf : l.all Chg.mayB = false := by rw [List.all_eq_false]; exact ⟨_, List.getElem_mem hlt, by simp [hm]⟩
      rw [show changesL l = ([], 8) by unfold changesL; rw [if_neg h1, if_pos hf]] at hK
      repeat' (first | simp only [go_sem, Nat.reduceLT, Nat.reduceEqDiff, Nat.reduceAdd, Nat.reduceMul, Nat.reduceSub, Nat.reduceLeDiff, Int.reduceToNat, Int.reduceNeg, Int.reduceLT, Int.reduceLE, Int.reduceEq, reduceCtorEq, Int.natCast_zero, Int.natCast_one, Int.cast_ofNat_Int, Bool.not_not, false_eq_decide, true_eq_decide, hread0, hreadk, read_cons0, read_consk, astore_h0, astore_hk, hget0, hgetk, hset0, hsetk, hlen, hcat, Nat.add_assoc, Nat.add_zero, Nat.zero_add, List.length_append, and_true, true_and, AV.flat, *, -hK, -hall, -sm, -hm, -h1, -hf] | refine WC.call (sm _) ?_ | with_reducible refine IfB_dec (fun h => ?_) (fun h => ?_) | with_reducible refine Guard_dec (fun h => ?_) (fun h => ?_) | with_reducible refine Guard_ndec (fun h => ?_) (fun h => ?_) | with_reducible refine Guard_not (fun h => ?_) (fun h => ?_) | with_reducible refine IfB_ndec (fun h => ?_) (fun h => ?_) | with_reducible refine IfB_not (fun h => ?_) (fun h => ?_) | with_reducible refine Guard_split (fun h => ?_) (fun h => ?_) | with_reducible refine IfB_split (fun h => ?_) (fun h => ?_))
      exact hK _ _ ⟨⟨_, rfl, Ob.nils _ _⟩, kk.trans (Keep.app _ _ _)⟩
  have hlti : ¬ (i : Int) < l.length := by omega
  have hin : i = l.length := by omega
  rw [hin, List.take_length] at hall
  have hmay : ∀ c ∈ l, c.mayB = true := List.all_eq_true.1 hall
  clear hR hA hs hg hin
  repeat' (first | simp only [go_sem, Nat.reduceLT, Nat.reduceEqDiff, Nat.reduceAdd, Nat.reduceMul, Nat.reduceSub, Nat.reduceLeDiff, Int.reduceToNat, Int.reduceNeg, Int.reduceLT, Int.reduceLE, Int.reduceEq, reduceCtorEq, Int.natCast_zero, Int.natCast_one, Int.cast_ofNat_Int, Bool.not_not, false_eq_decide, true_eq_decide, hread0, hreadk, read_cons0, read_consk, astore_h0, astore_hk, hget0, hgetk, hset0, hsetk, hlen, hcat, Nat.add_assoc, Nat.add_zero, Nat.zero_add, List.length_append, and_true, true_and, AV.flat, *, -hK, -hall, -h1] | with_reducible refine IfB_dec (fun h => ?_) (fun h => ?_) | with_reducible refine Guard_dec (fun h => ?_) (fun h => ?_) | with_reducible refine Guard_ndec (fun h => ?_) (fun h => ?_) | with_reducible refine Guard_not (fun h => ?_) (fun h => ?_) | with_reducible refine IfB_ndec (fun h => ?_) (fun h => ?_) | with_reducible refine IfB_not (fun h => ?_) (fun h => ?_) | with_reducible refine Guard_split (fun h => ?_) (fun h => ?_) | with_reducible refine IfB_split (fun h => ?_) (fun h => ?_))
  refine (nums_spec (m := H.length) _ _ [] [(l.length : Int)] _ (Ob.nils _ _) (by have := kk.len; simp; omega) (get_vs (by rw [hget0]; rfl) rfl rfl) (by simp [AV.blk]) (by simp)).mono ?_
  intro r2 H2 g2
  have hn := num1 (x := (l.length : Int)) (by omega) (by omega)
  have hs10 := small_len10 (n := l.length) (by omega)
  rw [hn, List.nil_append, Int.toNat_natCast] at g2
  have k2 : Keep none H H2 := g2.keep0 (kk.trans (Keep.app none H1 _)) (by simp [AV.blk])
  have o2 := g2.own
  clear g2 hn
  repeat' (first | simp only [go_sem, Nat.reduceLT, Nat.reduceEqDiff, Nat.reduceAdd, Nat.reduceMul, Nat.reduceSub, Nat.reduceLeDiff, Int.reduceToNat, Int.reduceNeg, Int.reduceLT, Int.reduceLE, Int.reduceEq, reduceCtorEq, Int.natCast_zero, Int.natCast_one, Int.cast_ofNat_Int, Bool.not_not, false_eq_decide, true_eq_decide, hread0, hreadk, read_cons0, read_consk, astore_h0, astore_hk, hget0, hgetk, hset0, hsetk, hlen, hcat, Nat.add_assoc, Nat.add_zero, Nat.zero_add, List.length_append, and_true, true_and, AV.flat, *, -hK, -hall, -h1, -hmay, -hs10] | with_reducible refine IfB_dec (fun h => ?_) (fun h => ?_) | with_reducible refine Guard_dec (fun h => ?_) (fun h => ?_) | with_reducible refine Guard_ndec (fun h => ?_) (fun h => ?_) | with_reducible refine Guard_not (fun h => ?_) (fun h => ?_) | with_reducible refine IfB_ndec (fun h => ?_) (fun h => ?_) | with_reducible refine IfB_not (fun h => ?_) (fun h => ?_) | with_reducible refine Guard_split (fun h => ?_) (fun h => ?_) | with_reducible refine IfB_split (fun h => ?_) (fun h => ?_))
  refine WX_loopS [26, 27] (fun k fr' H' => ∃ (j : Nat) (a : AV), k = l.length - j ∧ j ≤ l.length ∧ fr'.get 28 = .int .i64 j ∧ fr'.get 6 = a ∧ Ob H.length H' a (small l.length ++ (l.take j).flatMap Chg.putL) ∧ (small l.length ++ (l.take j).flatMap Chg.putL).length ≤ 65536 ∧ Keep none H H') l.length ⟨0, r2, rfl, by omega, by simp only [go_sem, Nat.reduceLT, Nat.reduceEqDiff, Nat.reduceAdd, Nat.reduceMul, Nat.reduceSub, Nat.reduceLeDiff, Int.reduceToNat, Int.reduceNeg, Int.reduceLT, Int.reduceLE, Int.reduceEq, reduceCtorEq]; rfl, by simp only [go_sem, Nat.reduceLT, Nat.reduceEqDiff, Nat.reduceAdd, Nat.reduceMul, Nat.reduceSub, Nat.reduceLeDiff, Int.reduceToNat, Int.reduceNeg, Int.reduceLT, Int.reduceLE, Int.reduceEq, reduceCtorEq], by simpa using o2, by simp; omega, k2⟩ ?_
  clear hlti hi f14 o2 k2 kk
  rintro k fr' H3 A R hA hs hg hR ⟨j, a, rfl, hj, f28, f6, oa, hle, kk⟩
  have s26 := hg 26 (by decide)
  have s27 := hg 27 (by decide)
  simp only [Fr.get_put, Fr.get_init, List.getD_cons_zero, List.getD_cons_succ, Nat.reduceEqDiff, if_true, if_false] at s26 s27
  refine wx_sound hT _ ?_
  by_cases hlt : j < l.length
  rotate_left
  · have hlti : ¬ (j : Int) < l.length := by omega
    have hjn : j = l.length := by omega
    rw [hjn, List.take_length] at oa hle
    rw [show changesL l = (small l.length ++ l.flatMap Chg.putL, 0) by unfold changesL; rw [if_neg h1, if_neg (by rw [hall]; simp), if_neg (by omega)]] at hK
    repeat' (first | simp only [go_sem, Nat.reduceLT, Nat.reduceEqDiff, Nat.reduceAdd, Nat.reduceMul, Nat.reduceSub, Nat.reduceLeDiff, Int.reduceToNat, Int.reduceNeg, Int.reduceLT, Int.reduceLE, Int.reduceEq, reduceCtorEq, Int.natCast_zero, Int.natCast_one, Int.cast_ofNat_Int, Bool.not_not, false_eq_decide, true_eq_decide, hread0, hreadk, read_cons0, read_consk, astore_h0, astore_hk, hget0, hgetk, hset0, hsetk, hlen, hcat, Nat.add_assoc, Nat.add_zero, Nat.zero_add, List.length_append, and_true, true_and, AV.flat, *, -hK, -hall, -h1, -hmay, -hs10, -hle, -oa, -hjn] | with_reducible refine IfB_dec (fun h => ?_) (fun h => ?_) | with_reducible refine Guard_dec (fun h => ?_) (fun h => ?_) | with_reducible refine Guard_ndec (fun h => ?_) (fun h => ?_) | with_reducible refine Guard_not (fun h => ?_) (fun h => ?_) | with_reducible refine IfB_ndec (fun h => ?_) (fun h => ?_) | with_reducible refine IfB_not (fun h => ?_) (fun h => ?_) | with_reducible refine Guard_split (fun h => ?_) (fun h => ?_) | with_reducible refine IfB_split (fun h => ?_) (fun h => ?_))
    exact hK _ _ ⟨⟨_, rfl, oa⟩, kk⟩
  have hlti : (j : Int) < l.length := by omega
  have e1 := at_enc (E := chgE) (T := T) (k := .i64) se56 hlt rfl
  have e3 := inc_id hlt hl
  rw [chgE_cells] at e1
  repeat' (first | simp only [go_sem, Nat.reduceLT, Nat.reduceEqDiff, Nat.reduceAdd, Nat.reduceMul, Nat.reduceSub, Nat.reduceLeDiff, Int.reduceToNat, Int.reduceNeg, Int.reduceLT, Int.reduceLE, Int.reduceEq, reduceCtorEq, Int.natCast_zero, Int.natCast_one, Int.cast_ofNat_Int, Bool.not_not, false_eq_decide, true_eq_decide, hread0, hreadk, read_cons0, read_consk, astore_h0, astore_hk, hget0, hgetk, hset0, hsetk, hlen, hcat, Nat.add_assoc, Nat.add_zero, Nat.zero_add, List.length_append, and_true, true_and, AV.flat, *, -hK, -hall, -h1, -hmay, -hs10, -hle, -oa] | with_reducible refine IfB_dec (fun h => ?_) (fun h => ?_) | with_reducible refine Guard_dec (fun h => ?_) (fun h => ?_) | with_reducible refine Guard_ndec (fun h => ?_) (fun h => ?_) | with_reducible refine Guard_not (fun h => ?_) (fun h => ?_) | with_reducible refine IfB_ndec (fun h => ?_) (fun h => ?_) | with_reducible refine IfB_not (fun h => ?_) (fun h => ?_) | with_reducible refine Guard_split (fun h => ?_) (fun h => ?_) | with_reducible refine IfB_split (fun h => ?_) (fun h => ?_))
  have pp := put_spec (m := H.length) a _ l[j] (ho _ (List.getElem_mem hlt)) (hmay _ (List.getElem_mem hlt)) _ (oa.keep0 (Keep.app none H3 [(⟨l[j].cs, 0, .full⟩ : Blk)])) (by have := kk.len; simp; omega) (by omega)
  unfold Chg.av Chg.cs at pp
  refine pp.mono ?_
  clear pp
  intro r4 H4 g4
  have k4 : Keep none H H4 := g4.keep0 (kk.trans (Keep.app none H3 _)) (fun b hb => oa.ge hb)
  have o4 := g4.own
  rw [List.append_assoc, ← put_step hlt] at o4
  have al := o4.bs.alen tk30
  clear g4
  by_cases hbig : (small l.length ++ (l.take (j + 1)).flatMap Chg.putL).length > 65536
  · have ib : ((small l.length ++ (l.take (j + 1)).flatMap Chg.putL).length : Int) > 65536 := by omega
    have hpp := put_part l (j + 1)
    rw [show changesL l = ([], 3) by unfold changesL; rw [if_neg h1, if_neg (by rw [hall]; simp), if_pos (by simp only [List.length_append] at hbig ⊢; omega)]] at hK
    generalize (small l.length ++ (l.take (j + 1)).flatMap Chg.putL) = bb at *
    clear hpp hbig hle
    repeat' (first | simp only [go_sem, Nat.reduceLT, Nat.reduceEqDiff, Nat.reduceAdd, Nat.reduceMul, Nat.reduceSub, Nat.reduceLeDiff, Int.reduceToNat, Int.reduceNeg, Int.reduceLT, Int.reduceLE, Int.reduceEq, reduceCtorEq, Int.natCast_zero, Int.natCast_one, Int.cast_ofNat_Int, Bool.not_not, false_eq_decide, true_eq_decide, hread0, hreadk, read_cons0, read_consk, astore_h0, astore_hk, hget0, hgetk, hset0, hsetk, hlen, hcat, Nat.add_assoc, Nat.add_zero, Nat.zero_add, List.length_append, and_true, true_and, AV.flat, *, -hK, -hall, -h1, -hmay, -hs10, -oa, -o4] | with_reducible refine IfB_dec (fun h => ?_) (fun h => ?_) | with_reducible refine Guard_dec (fun h => ?_) (fun h => ?_) | with_reducible refine Guard_ndec (fun h => ?_) (fun h => ?_) | with_reducible refine Guard_not (fun h => ?_) (fun h => ?_) | with_reducible refine IfB_ndec (fun h => ?_) (fun h => ?_) | with_reducible refine IfB_not (fun h => ?_) (fun h => ?_) | with_reducible refine Guard_split (fun h => ?_) (fun h => ?_) | with_reducible refine IfB_split (fun h => ?_) (fun h => ?_))
    exact hK _ _ ⟨⟨_, rfl, Ob.nils _ _⟩, k4⟩
  have ib : ¬ ((small l.length ++ (l.take (j + 1)).flatMap Chg.putL).length : Int) > 65536 := by omega
  have hbb : (small l.length ++ (l.take (j + 1)).flatMap Chg.putL).length ≤ 65536 := by omega
  have back : ∀ fr2, A fr2 → fr2.get 28 = .int .i64 ((j + 1 : Nat) : Int) → fr2.get 6 = r4 → R fr2 H4 := fun fr2 ha h1 h2 => hR fr2 H4 ha (l.length - (j + 1)) (by omega) ⟨j + 1, r4, rfl, by omega, h1, h2, o4, hbb, k4⟩
  clear hR
  generalize (small l.length ++ (l.take (j + 1)).flatMap Chg.putL) = bb at *
  repeat' (first | simp only [go_sem, Nat.reduceLT, Nat.reduceEqDiff, Nat.reduceAdd, Nat.reduceMul, Nat.reduceSub, Nat.reduceLeDiff, Int.reduceToNat, Int.reduceNeg, Int.reduceLT, Int.reduceLE, Int.reduceEq, reduceCtorEq, Int.natCast_zero, Int.natCast_one, Int.cast_ofNat_Int, Bool.not_not, false_eq_decide, true_eq_decide, hread0, hreadk, read_cons0, read_consk, astore_h0, astore_hk, hget0, hgetk, hset0, hsetk, hlen, hcat, Nat.add_assoc, Nat.add_zero, Nat.zero_add, List.length_append, and_true, true_and, AV.flat, *, -hK, -hall, -h1, -hmay, -hs10, -hle, -oa, -o4, -hbb, -back, -hbig] | with_reducible refine IfB_dec (fun h => ?_) (fun h => ?_) | with_reducible refine Guard_dec (fun h => ?_) (fun h => ?_) | with_reducible refine Guard_ndec (fun h => ?_) (fun h => ?_) | with_reducible refine Guard_not (fun h => ?_) (fun h => ?_) | with_reducible refine IfB_ndec (fun h => ?_) (fun h => ?_) | with_reducible refine IfB_not (fun h => ?_) (fun h => ?_) | with_reducible refine Guard_split (fun h => ?_) (fun h => ?_) | with_reducible refine IfB_split (fun h => ?_) (fun h => ?_))
  exact back _ (by (repeat (first | exact hs | refine hA _ _ _ (by decide) ?_))) (by simp only [go_sem, Nat.reduceLT, Nat.reduceEqDiff, Nat.reduceAdd, Nat.reduceMul, Nat.reduceSub, Nat.reduceLeDiff, Int.reduceToNat, Int.reduceNeg, Int.reduceLT, Int.reduceLE, Int.reduceEq, reduceCtorEq]) (by simp only [go_sem, Nat.reduceLT, Nat.reduceEqDiff, Nat.reduceAdd, Nat.reduceMul, Nat.reduceSub, Nat.reduceLeDiff, Int.reduceToNat, Int.reduceNeg, Int.reduceLT, Int.reduceLE, Int.reduceEq, reduceCtorEq])
open Go Go.Proofs Go.Proofs.PI
/-! ### a change is read -/
structure ChI (H : Heap) (p : Nat) (s : RS) (bx : List AV) (G : Heap) : Prop where
  len : G.length = H.length + 2
  hp : G[p]? = some ⟨[Enc.u8.lst s.l, .bool s.bad], 0, .full⟩
  hz : G[H.length]? = some ⟨[.int .u8 0, .int .i64 0, .str [], .str [], .int .u32 0, .int .i64 0, .int .u64 0, .str [], .int .u8 0, .int .i64 0, .bool false], 0, .full⟩
  hb : G[H.length + 1]? = some ⟨bx, 0, .full⟩
  ho : ∀ b, b < H.length → b ≠ p → G[b]? = H[b]?
theorem ChI.setp {H : Heap} {p : Nat} {s : RS} {bx : List AV} {G G' : Heap} {s' : RS} (g : ChI H p s bx G) (hp : p < H.length) (h : G' = List.set G p s'.blk) : ChI H p s' bx G' := by
  subst h
  refine ⟨by rw [List.length_set]; exact g.len, get_set g.hp _, ?_, ?_, fun b hb hne => ?_⟩
  · rw [List.getElem?_set_ne (by omega)]; exact g.hz
  · rw [List.getElem?_set_ne (by omega)]; exact g.hb
  · rw [List.getElem?_set_ne (by omega)]; exact g.ho b hb hne
theorem ChI.setb {H : Heap} {p : Nat} {s : RS} {bx : List AV} {G : Heap} (g : ChI H p s bx G) (hp : p < H.length) (bx' : List AV) : ChI H p s bx' (List.set G (H.length + 1) ⟨bx', 0, .full⟩) := by
  refine ⟨by rw [List.length_set]; exact g.len, ?_, ?_, get_set g.hb _, fun b hb hne => ?_⟩
  · rw [List.getElem?_set_ne (by omega)]; exact g.hp
  · rw [List.getElem?_set_ne (by omega)]; exact g.hz
  · rw [List.getElem?_set_ne (by omega)]; exact g.ho b hb hne
theorem ChI.fin {H : Heap} {p : Nat} {s : RS} {bx : List AV} {G : Heap} (g : ChI H p s bx G) (hp : p < H.length) (B : Blk) : Keep none (List.set H p s.blk) (List.set G H.length B) := by
  refine ⟨by rw [List.length_set, List.length_set, g.len]; omega, fun b hb _ => ?_⟩
  rw [List.length_set] at hb
  rw [List.getElem?_set_ne (by omega)]
  by_cases e : b = p
  · subst e
    rw [g.hp, List.getElem?_set_self hb]; rfl
  · rw [List.getElem?_set_ne (by omega)]; exact g.ho b hb e
theorem change_spec (p : Nat) (l : List UInt8) (bad : Bool) (hl : l.length ≤ 140737488355328) (H : Heap) (hb : H[p]? = some ⟨[Enc.u8.lst l, .bool bad], 0, .full⟩) :
    WC Try.prog 60 [.ptr p 0] H fun r H' => r = (changeS ⟨l, bad⟩).1.av ∧ Keep none (List.set H p (changeS ⟨l, bad⟩).2.blk) H' := by
  refine WC_of_K fun K hK => ?_
  obtain ⟨k0, s1, h1⟩ : ∃ x s, byteS ⟨l, bad⟩ = (x, s) := ⟨_, _, rfl⟩
  have l1 := byteS_len ⟨l, bad⟩
  rw [h1] at l1
  unfold changeS changeG at hK
  rw [h1] at hK
  simp only at hK l1
  have hp : p < H.length := (List.getElem?_eq_some_iff.1 hb).1
  have b1 := rbyte_spec p l bad hl (H ++ [(⟨[.int .u8 0, .int .i64 0, .str [], .str [], .int .u32 0, .int .i64 0, .int .u64 0, .str [], .int .u8 0, .int .i64 0, .bool false], 0, .full⟩ : Blk)]) (get_app hb _)
  rw [h1] at b1
  simp only [RS.blk] at b1
  by_cases q3 : k0.toNat = 3
  · rw [q3] at hK b1
    simp only [Nat.reduceEqDiff, if_true, if_false, rd3, Int.cast_ofNat_Int] at hK b1
    clear q3
    refine WC_of_body hT Try.func60 rfl (by simp [Try.f60]) (by simp [Try.f60]) (wx_sound hT _ ?_)
    simp only [Try.f60]
    repeat' (first | simp only [go_sem, Nat.reduceLT, Nat.reduceEqDiff, Nat.reduceAdd, Nat.reduceMul, Nat.reduceSub, Nat.reduceLeDiff, Int.reduceToNat, Int.reduceNeg, Int.reduceLT, Int.reduceLE, Int.reduceEq, reduceCtorEq, Int.natCast_zero, Int.natCast_one, Int.cast_ofNat_Int, Bool.not_not, false_eq_decide, true_eq_decide, hread0, hreadk, read_cons0, read_consk, astore_h0, astore_hk, hget0, hgetk, hset0, hsetk, hlen, hcat, Nat.add_assoc, Nat.add_zero, Nat.zero_add, List.length_append, and_true, true_and, AV.flat, *, -hK, -b1, -h1, -l1] | refine WC.call (b1) ?_ | with_reducible refine IfB_dec (fun h => ?_) (fun h => ?_) | with_reducible refine Guard_dec (fun h => ?_) (fun h => ?_) | with_reducible refine Guard_ndec (fun h => ?_) (fun h => ?_) | with_reducible refine Guard_not (fun h => ?_) (fun h => ?_) | with_reducible refine IfB_ndec (fun h => ?_) (fun h => ?_) | with_reducible refine IfB_not (fun h => ?_) (fun h => ?_) | with_reducible refine Guard_split (fun h => ?_) (fun h => ?_) | with_reducible refine IfB_split (fun h => ?_) (fun h => ?_))
    clear b1
    generalize hG : (List.set (H ++ [(⟨[.int .u8 0, .int .i64 0, .str [], .str [], .int .u32 0, .int .i64 0, .int .u64 0, .str [], .int .u8 0, .int .i64 0, .bool false], 0, .full⟩ : Blk)]) p ⟨[Enc.u8.lst s1.l, .bool s1.bad], 0, .full⟩ ++ [(⟨[.int .u8 3, .int .i64 0, .str [], .str [], .int .u32 0, .int .i64 0, .int .u64 0, .str [], .int .u8 0, .int .i64 0, .bool false], 0, .full⟩ : Blk)] : Heap) = G
    have g1 : ChI H p s1 [.int .u8 3, .int .i64 0, .str [], .str [], .int .u32 0, .int .i64 0, .int .u64 0, .str [], .int .u8 0, .int .i64 0, .bool false] G := by
      subst hG
      refine ⟨by simp, ?_, ?_, ?_, fun b hb hne => ?_⟩
      · rw [List.getElem?_append_left (by simp; omega), List.getElem?_set_self (by simp; omega)]
      · rw [List.getElem?_append_left (by simp), List.getElem?_set_ne (by omega)]; simp
      · rw [List.getElem?_append_right (by simp)]; simp
      · rw [List.getElem?_append_left (by simp; omega), List.getElem?_set_ne (by omega), List.getElem?_append_left hb]
    clear hG
    obtain ⟨t0, s2, es2⟩ : ∃ x s, numS 4 s1 = (x, s) := ⟨_, _, rfl⟩
    have ls2 := numS_len 4 s1
    rw [es2] at ls2
    simp only [es2] at hK
    have cs2 := num_spec p 4 (by omega) s1.l s1.bad (by omega) _ g1.hp
    rw [show (⟨s1.l, s1.bad⟩ : RS) = s1 from rfl, es2] at cs2
    simp only [Int.cast_ofNat_Int] at cs2
    refine cs2.mono ?_
    clear cs2
    rintro r Gs2 ⟨rfl, hG⟩
    have g2 := g1.setp hp hG
    clear hG es2
    have hbs2 := g2.hb
    simp only at ls2
    repeat' (first | simp only [go_sem, Nat.reduceLT, Nat.reduceEqDiff, Nat.reduceAdd, Nat.reduceMul, Nat.reduceSub, Nat.reduceLeDiff, Int.reduceToNat, Int.reduceNeg, Int.reduceLT, Int.reduceLE, Int.reduceEq, reduceCtorEq, Int.natCast_zero, Int.natCast_one, Int.cast_ofNat_Int, Bool.not_not, false_eq_decide, true_eq_decide, hread0, hreadk, read_cons0, read_consk, astore_h0, astore_hk, hget0, hgetk, hset0, hsetk, hlen, hcat, Nat.add_assoc, Nat.add_zero, Nat.zero_add, List.length_append, and_true, true_and, AV.flat, hbs2, get_app hbs2, read_get hbs2, read_app hbs2, astore_get hbs2, astore_app hbs2, get_set hbs2, get_set_app hbs2, read_set hbs2, read_set_app hbs2, astore_set hbs2, astore_set_app hbs2, List.set_set, hget0s, hgetks, hread0s, hreadks, List.length_set, *, -hK, -h1, -l1] | with_reducible refine IfB_dec (fun h => ?_) (fun h => ?_) | with_reducible refine Guard_dec (fun h => ?_) (fun h => ?_) | with_reducible refine Guard_ndec (fun h => ?_) (fun h => ?_) | with_reducible refine Guard_not (fun h => ?_) (fun h => ?_) | with_reducible refine IfB_ndec (fun h => ?_) (fun h => ?_) | with_reducible refine IfB_not (fun h => ?_) (fun h => ?_) | with_reducible refine Guard_split (fun h => ?_) (fun h => ?_) | with_reducible refine IfB_split (fun h => ?_) (fun h => ?_))
    have g3 := g2.setb hp [.int .u8 3, .int .i64 t0, .str [], .str [], .int .u32 0, .int .i64 0, .int .u64 0, .str [], .int .u8 0, .int .i64 0, .bool false]
    clear hbs2
    have hzz := g3.hz
    have hbb := g3.hb
    repeat' (first | simp only [go_sem, Nat.reduceLT, Nat.reduceEqDiff, Nat.reduceAdd, Nat.reduceMul, Nat.reduceSub, Nat.reduceLeDiff, Int.reduceToNat, Int.reduceNeg, Int.reduceLT, Int.reduceLE, Int.reduceEq, reduceCtorEq, Int.natCast_zero, Int.natCast_one, Int.cast_ofNat_Int, Bool.not_not, false_eq_decide, true_eq_decide, hread0, hreadk, read_cons0, read_consk, astore_h0, astore_hk, hget0, hgetk, hset0, hsetk, hlen, hcat, Nat.add_assoc, Nat.add_zero, Nat.zero_add, List.length_append, and_true, true_and, AV.flat, hzz, get_app hzz, read_get hzz, read_app hzz, astore_get hzz, astore_app hzz, get_set hzz, get_set_app hzz, read_set hzz, read_set_app hzz, astore_set hzz, astore_set_app hzz, List.set_set, hget0s, hgetks, hread0s, hreadks, List.length_set, hbb, get_app hbb, read_get hbb, read_app hbb, *, -hK, -h1, -l1] | with_reducible refine IfB_dec (fun h => ?_) (fun h => ?_) | with_reducible refine Guard_dec (fun h => ?_) (fun h => ?_) | with_reducible refine Guard_ndec (fun h => ?_) (fun h => ?_) | with_reducible refine Guard_not (fun h => ?_) (fun h => ?_) | with_reducible refine IfB_ndec (fun h => ?_) (fun h => ?_) | with_reducible refine IfB_not (fun h => ?_) (fun h => ?_) | with_reducible refine Guard_split (fun h => ?_) (fun h => ?_) | with_reducible refine IfB_split (fun h => ?_) (fun h => ?_))
    exact hK _ _ ⟨rfl, g3.fin hp _⟩
  by_cases q4 : k0.toNat = 4
  · rw [q4] at hK b1
    simp only [Nat.reduceEqDiff, if_true, if_false, rdTo, Int.cast_ofNat_Int] at hK b1
    clear q4
    refine WC_of_body hT Try.func60 rfl (by simp [Try.f60]) (by simp [Try.f60]) (wx_sound hT _ ?_)
    simp only [Try.f60]
    repeat' (first | simp only [go_sem, Nat.reduceLT, Nat.reduceEqDiff, Nat.reduceAdd, Nat.reduceMul, Nat.reduceSub, Nat.reduceLeDiff, Int.reduceToNat, Int.reduceNeg, Int.reduceLT, Int.reduceLE, Int.reduceEq, reduceCtorEq, Int.natCast_zero, Int.natCast_one, Int.cast_ofNat_Int, Bool.not_not, false_eq_decide, true_eq_decide, hread0, hreadk, read_cons0, read_consk, astore_h0, astore_hk, hget0, hgetk, hset0, hsetk, hlen, hcat, Nat.add_assoc, Nat.add_zero, Nat.zero_add, List.length_append, and_true, true_and, AV.flat, *, -hK, -b1, -h1, -l1] | refine WC.call (b1) ?_ | with_reducible refine IfB_dec (fun h => ?_) (fun h => ?_) | with_reducible refine Guard_dec (fun h => ?_) (fun h => ?_) | with_reducible refine Guard_ndec (fun h => ?_) (fun h => ?_) | with_reducible refine Guard_not (fun h => ?_) (fun h => ?_) | with_reducible refine IfB_ndec (fun h => ?_) (fun h => ?_) | with_reducible refine IfB_not (fun h => ?_) (fun h => ?_) | with_reducible refine Guard_split (fun h => ?_) (fun h => ?_) | with_reducible refine IfB_split (fun h => ?_) (fun h => ?_))
    clear b1
    generalize hG : (List.set (H ++ [(⟨[.int .u8 0, .int .i64 0, .str [], .str [], .int .u32 0, .int .i64 0, .int .u64 0, .str [], .int .u8 0, .int .i64 0, .bool false], 0, .full⟩ : Blk)]) p ⟨[Enc.u8.lst s1.l, .bool s1.bad], 0, .full⟩ ++ [(⟨[.int .u8 4, .int .i64 0, .str [], .str [], .int .u32 0, .int .i64 0, .int .u64 0, .str [], .int .u8 0, .int .i64 0, .bool false], 0, .full⟩ : Blk)] : Heap) = G
    have g1 : ChI H p s1 [.int .u8 4, .int .i64 0, .str [], .str [], .int .u32 0, .int .i64 0, .int .u64 0, .str [], .int .u8 0, .int .i64 0, .bool false] G := by
      subst hG
      refine ⟨by simp, ?_, ?_, ?_, fun b hb hne => ?_⟩
      · rw [List.getElem?_append_left (by simp; omega), List.getElem?_set_self (by simp; omega)]
      · rw [List.getElem?_append_left (by simp), List.getElem?_set_ne (by omega)]; simp
      · rw [List.getElem?_append_right (by simp)]; simp
      · rw [List.getElem?_append_left (by simp; omega), List.getElem?_set_ne (by omega), List.getElem?_append_left hb]
    clear hG
    obtain ⟨t0, s2, es2⟩ : ∃ x s, numS 1099511627776 s1 = (x, s) := ⟨_, _, rfl⟩
    have ls2 := numS_len 1099511627776 s1
    rw [es2] at ls2
    simp only [es2] at hK
    have cs2 := num_spec p 1099511627776 (by omega) s1.l s1.bad (by omega) _ g1.hp
    rw [show (⟨s1.l, s1.bad⟩ : RS) = s1 from rfl, es2] at cs2
    simp only [Int.cast_ofNat_Int] at cs2
    refine cs2.mono ?_
    clear cs2
    rintro r Gs2 ⟨rfl, hG⟩
    have g2 := g1.setp hp hG
    clear hG es2
    have hbs2 := g2.hb
    simp only at ls2
    repeat' (first | simp only [go_sem, Nat.reduceLT, Nat.reduceEqDiff, Nat.reduceAdd, Nat.reduceMul, Nat.reduceSub, Nat.reduceLeDiff, Int.reduceToNat, Int.reduceNeg, Int.reduceLT, Int.reduceLE, Int.reduceEq, reduceCtorEq, Int.natCast_zero, Int.natCast_one, Int.cast_ofNat_Int, Bool.not_not, false_eq_decide, true_eq_decide, hread0, hreadk, read_cons0, read_consk, astore_h0, astore_hk, hget0, hgetk, hset0, hsetk, hlen, hcat, Nat.add_assoc, Nat.add_zero, Nat.zero_add, List.length_append, and_true, true_and, AV.flat, hbs2, get_app hbs2, read_get hbs2, read_app hbs2, astore_get hbs2, astore_app hbs2, get_set hbs2, get_set_app hbs2, read_set hbs2, read_set_app hbs2, astore_set hbs2, astore_set_app hbs2, List.set_set, hget0s, hgetks, hread0s, hreadks, List.length_set, *, -hK, -h1, -l1] | with_reducible refine IfB_dec (fun h => ?_) (fun h => ?_) | with_reducible refine Guard_dec (fun h => ?_) (fun h => ?_) | with_reducible refine Guard_ndec (fun h => ?_) (fun h => ?_) | with_reducible refine Guard_not (fun h => ?_) (fun h => ?_) | with_reducible refine IfB_ndec (fun h => ?_) (fun h => ?_) | with_reducible refine IfB_not (fun h => ?_) (fun h => ?_) | with_reducible refine Guard_split (fun h => ?_) (fun h => ?_) | with_reducible refine IfB_split (fun h => ?_) (fun h => ?_))
    have g3 := g2.setb hp [.int .u8 4, .int .i64 0, .str [], .str [], .int .u32 0, .int .i64 0, .int .u64 0, .str [], .int .u8 0, .int .i64 t0, .bool false]
    clear hbs2
    have hzz := g3.hz
    have hbb := g3.hb
    repeat' (first | simp only [go_sem, Nat.reduceLT, Nat.reduceEqDiff, Nat.reduceAdd, Nat.reduceMul, Nat.reduceSub, Nat.reduceLeDiff, Int.reduceToNat, Int.reduceNeg, Int.reduceLT, Int.reduceLE, Int.reduceEq, reduceCtorEq, Int.natCast_zero, Int.natCast_one, Int.cast_ofNat_Int, Bool.not_not, false_eq_decide, true_eq_decide, hread0, hreadk, read_cons0, read_consk, astore_h0, astore_hk, hget0, hgetk, hset0, hsetk, hlen, hcat, Nat.add_assoc, Nat.add_zero, Nat.zero_add, List.length_append, and_true, true_and, AV.flat, hzz, get_app hzz, read_get hzz, read_app hzz, astore_get hzz, astore_app hzz, get_set hzz, get_set_app hzz, read_set hzz, read_set_app hzz, astore_set hzz, astore_set_app hzz, List.set_set, hget0s, hgetks, hread0s, hreadks, List.length_set, hbb, get_app hbb, read_get hbb, read_app hbb, *, -hK, -h1, -l1] | with_reducible refine IfB_dec (fun h => ?_) (fun h => ?_) | with_reducible refine Guard_dec (fun h => ?_) (fun h => ?_) | with_reducible refine Guard_ndec (fun h => ?_) (fun h => ?_) | with_reducible refine Guard_not (fun h => ?_) (fun h => ?_) | with_reducible refine IfB_ndec (fun h => ?_) (fun h => ?_) | with_reducible refine IfB_not (fun h => ?_) (fun h => ?_) | with_reducible refine Guard_split (fun h => ?_) (fun h => ?_) | with_reducible refine IfB_split (fun h => ?_) (fun h => ?_))
    exact hK _ _ ⟨rfl, g3.fin hp _⟩
  by_cases q7 : k0.toNat = 7
  · rw [q7] at hK b1
    simp only [Nat.reduceEqDiff, if_true, if_false, rdTo, Int.cast_ofNat_Int] at hK b1
    clear q7
    refine WC_of_body hT Try.func60 rfl (by simp [Try.f60]) (by simp [Try.f60]) (wx_sound hT _ ?_)
    simp only [Try.f60]
    repeat' (first | simp only [go_sem, Nat.reduceLT, Nat.reduceEqDiff, Nat.reduceAdd, Nat.reduceMul, Nat.reduceSub, Nat.reduceLeDiff, Int.reduceToNat, Int.reduceNeg, Int.reduceLT, Int.reduceLE, Int.reduceEq, reduceCtorEq, Int.natCast_zero, Int.natCast_one, Int.cast_ofNat_Int, Bool.not_not, false_eq_decide, true_eq_decide, hread0, hreadk, read_cons0, read_consk, astore_h0, astore_hk, hget0, hgetk, hset0, hsetk, hlen, hcat, Nat.add_assoc, Nat.add_zero, Nat.zero_add, List.length_append, and_true, true_and, AV.flat, *, -hK, -b1, -h1, -l1] | refine WC.call (b1) ?_ | with_reducible refine IfB_dec (fun h => ?_) (fun h => ?_) | with_reducible refine Guard_dec (fun h => ?_) (fun h => ?_) | with_reducible refine Guard_ndec (fun h => ?_) (fun h => ?_) | with_reducible refine Guard_not (fun h => ?_) (fun h => ?_) | with_reducible refine IfB_ndec (fun h => ?_) (fun h => ?_) | with_reducible refine IfB_not (fun h => ?_) (fun h => ?_) | with_reducible refine Guard_split (fun h => ?_) (fun h => ?_) | with_reducible refine IfB_split (fun h => ?_) (fun h => ?_))
    clear b1
    generalize hG : (List.set (H ++ [(⟨[.int .u8 0, .int .i64 0, .str [], .str [], .int .u32 0, .int .i64 0, .int .u64 0, .str [], .int .u8 0, .int .i64 0, .bool false], 0, .full⟩ : Blk)]) p ⟨[Enc.u8.lst s1.l, .bool s1.bad], 0, .full⟩ ++ [(⟨[.int .u8 7, .int .i64 0, .str [], .str [], .int .u32 0, .int .i64 0, .int .u64 0, .str [], .int .u8 0, .int .i64 0, .bool false], 0, .full⟩ : Blk)] : Heap) = G
    have g1 : ChI H p s1 [.int .u8 7, .int .i64 0, .str [], .str [], .int .u32 0, .int .i64 0, .int .u64 0, .str [], .int .u8 0, .int .i64 0, .bool false] G := by
      subst hG
      refine ⟨by simp, ?_, ?_, ?_, fun b hb hne => ?_⟩
      · rw [List.getElem?_append_left (by simp; omega), List.getElem?_set_self (by simp; omega)]
      · rw [List.getElem?_append_left (by simp), List.getElem?_set_ne (by omega)]; simp
      · rw [List.getElem?_append_right (by simp)]; simp
      · rw [List.getElem?_append_left (by simp; omega), List.getElem?_set_ne (by omega), List.getElem?_append_left hb]
    clear hG
    obtain ⟨t0, s2, es2⟩ : ∃ x s, numS 1099511627776 s1 = (x, s) := ⟨_, _, rfl⟩
    have ls2 := numS_len 1099511627776 s1
    rw [es2] at ls2
    simp only [es2] at hK
    have cs2 := num_spec p 1099511627776 (by omega) s1.l s1.bad (by omega) _ g1.hp
    rw [show (⟨s1.l, s1.bad⟩ : RS) = s1 from rfl, es2] at cs2
    simp only [Int.cast_ofNat_Int] at cs2
    refine cs2.mono ?_
    clear cs2
    rintro r Gs2 ⟨rfl, hG⟩
    have g2 := g1.setp hp hG
    clear hG es2
    have hbs2 := g2.hb
    simp only at ls2
    repeat' (first | simp only [go_sem, Nat.reduceLT, Nat.reduceEqDiff, Nat.reduceAdd, Nat.reduceMul, Nat.reduceSub, Nat.reduceLeDiff, Int.reduceToNat, Int.reduceNeg, Int.reduceLT, Int.reduceLE, Int.reduceEq, reduceCtorEq, Int.natCast_zero, Int.natCast_one, Int.cast_ofNat_Int, Bool.not_not, false_eq_decide, true_eq_decide, hread0, hreadk, read_cons0, read_consk, astore_h0, astore_hk, hget0, hgetk, hset0, hsetk, hlen, hcat, Nat.add_assoc, Nat.add_zero, Nat.zero_add, List.length_append, and_true, true_and, AV.flat, hbs2, get_app hbs2, read_get hbs2, read_app hbs2, astore_get hbs2, astore_app hbs2, get_set hbs2, get_set_app hbs2, read_set hbs2, read_set_app hbs2, astore_set hbs2, astore_set_app hbs2, List.set_set, hget0s, hgetks, hread0s, hreadks, List.length_set, *, -hK, -h1, -l1] | with_reducible refine IfB_dec (fun h => ?_) (fun h => ?_) | with_reducible refine Guard_dec (fun h => ?_) (fun h => ?_) | with_reducible refine Guard_ndec (fun h => ?_) (fun h => ?_) | with_reducible refine Guard_not (fun h => ?_) (fun h => ?_) | with_reducible refine IfB_ndec (fun h => ?_) (fun h => ?_) | with_reducible refine IfB_not (fun h => ?_) (fun h => ?_) | with_reducible refine Guard_split (fun h => ?_) (fun h => ?_) | with_reducible refine IfB_split (fun h => ?_) (fun h => ?_))
    have g3 := g2.setb hp [.int .u8 7, .int .i64 0, .str [], .str [], .int .u32 0, .int .i64 0, .int .u64 0, .str [], .int .u8 0, .int .i64 t0, .bool false]
    clear hbs2
    have hzz := g3.hz
    have hbb := g3.hb
    repeat' (first | simp only [go_sem, Nat.reduceLT, Nat.reduceEqDiff, Nat.reduceAdd, Nat.reduceMul, Nat.reduceSub, Nat.reduceLeDiff, Int.reduceToNat, Int.reduceNeg, Int.reduceLT, Int.reduceLE, Int.reduceEq, reduceCtorEq, Int.natCast_zero, Int.natCast_one, Int.cast_ofNat_Int, Bool.not_not, false_eq_decide, true_eq_decide, hread0, hreadk, read_cons0, read_consk, astore_h0, astore_hk, hget0, hgetk, hset0, hsetk, hlen, hcat, Nat.add_assoc, Nat.add_zero, Nat.zero_add, List.length_append, and_true, true_and, AV.flat, hzz, get_app hzz, read_get hzz, read_app hzz, astore_get hzz, astore_app hzz, get_set hzz, get_set_app hzz, read_set hzz, read_set_app hzz, astore_set hzz, astore_set_app hzz, List.set_set, hget0s, hgetks, hread0s, hreadks, List.length_set, hbb, get_app hbb, read_get hbb, read_app hbb, *, -hK, -h1, -l1] | with_reducible refine IfB_dec (fun h => ?_) (fun h => ?_) | with_reducible refine Guard_dec (fun h => ?_) (fun h => ?_) | with_reducible refine Guard_ndec (fun h => ?_) (fun h => ?_) | with_reducible refine Guard_not (fun h => ?_) (fun h => ?_) | with_reducible refine IfB_ndec (fun h => ?_) (fun h => ?_) | with_reducible refine IfB_not (fun h => ?_) (fun h => ?_) | with_reducible refine Guard_split (fun h => ?_) (fun h => ?_) | with_reducible refine IfB_split (fun h => ?_) (fun h => ?_))
    exact hK _ _ ⟨rfl, g3.fin hp _⟩
  by_cases q5 : k0.toNat = 5
  · rw [q5] at hK b1
    simp only [Nat.reduceEqDiff, if_true, if_false, rd5, Int.cast_ofNat_Int] at hK b1
    clear q5
    refine WC_of_body hT Try.func60 rfl (by simp [Try.f60]) (by simp [Try.f60]) (wx_sound hT _ ?_)
    simp only [Try.f60]
    repeat' (first | simp only [go_sem, Nat.reduceLT, Nat.reduceEqDiff, Nat.reduceAdd, Nat.reduceMul, Nat.reduceSub, Nat.reduceLeDiff, Int.reduceToNat, Int.reduceNeg, Int.reduceLT, Int.reduceLE, Int.reduceEq, reduceCtorEq, Int.natCast_zero, Int.natCast_one, Int.cast_ofNat_Int, Bool.not_not, false_eq_decide, true_eq_decide, hread0, hreadk, read_cons0, read_consk, astore_h0, astore_hk, hget0, hgetk, hset0, hsetk, hlen, hcat, Nat.add_assoc, Nat.add_zero, Nat.zero_add, List.length_append, and_true, true_and, AV.flat, *, -hK, -b1, -h1, -l1] | refine WC.call (b1) ?_ | with_reducible refine IfB_dec (fun h => ?_) (fun h => ?_) | with_reducible refine Guard_dec (fun h => ?_) (fun h => ?_) | with_reducible refine Guard_ndec (fun h => ?_) (fun h => ?_) | with_reducible refine Guard_not (fun h => ?_) (fun h => ?_) | with_reducible refine IfB_ndec (fun h => ?_) (fun h => ?_) | with_reducible refine IfB_not (fun h => ?_) (fun h => ?_) | with_reducible refine Guard_split (fun h => ?_) (fun h => ?_) | with_reducible refine IfB_split (fun h => ?_) (fun h => ?_))
    clear b1
    generalize hG : (List.set (H ++ [(⟨[.int .u8 0, .int .i64 0, .str [], .str [], .int .u32 0, .int .i64 0, .int .u64 0, .str [], .int .u8 0, .int .i64 0, .bool false], 0, .full⟩ : Blk)]) p ⟨[Enc.u8.lst s1.l, .bool s1.bad], 0, .full⟩ ++ [(⟨[.int .u8 5, .int .i64 0, .str [], .str [], .int .u32 0, .int .i64 0, .int .u64 0, .str [], .int .u8 0, .int .i64 0, .bool false], 0, .full⟩ : Blk)] : Heap) = G
    have g1 : ChI H p s1 [.int .u8 5, .int .i64 0, .str [], .str [], .int .u32 0, .int .i64 0, .int .u64 0, .str [], .int .u8 0, .int .i64 0, .bool false] G := by
      subst hG
      refine ⟨by simp, ?_, ?_, ?_, fun b hb hne => ?_⟩
      · rw [List.getElem?_append_left (by simp; omega), List.getElem?_set_self (by simp; omega)]
      · rw [List.getElem?_append_left (by simp), List.getElem?_set_ne (by omega)]; simp
      · rw [List.getElem?_append_right (by simp)]; simp
      · rw [List.getElem?_append_left (by simp; omega), List.getElem?_set_ne (by omega), List.getElem?_append_left hb]
    clear hG
    obtain ⟨t0, s2, es2⟩ : ∃ x s, numS 4 s1 = (x, s) := ⟨_, _, rfl⟩
    have ls2 := numS_len 4 s1
    rw [es2] at ls2
    simp only [es2] at hK
    have cs2 := num_spec p 4 (by omega) s1.l s1.bad (by omega) _ g1.hp
    rw [show (⟨s1.l, s1.bad⟩ : RS) = s1 from rfl, es2] at cs2
    simp only [Int.cast_ofNat_Int] at cs2
    refine cs2.mono ?_
    clear cs2
    rintro r Gs2 ⟨rfl, hG⟩
    have g2 := g1.setp hp hG
    clear hG es2
    have hbs2 := g2.hb
    simp only at ls2
    repeat' (first | simp only [go_sem, Nat.reduceLT, Nat.reduceEqDiff, Nat.reduceAdd, Nat.reduceMul, Nat.reduceSub, Nat.reduceLeDiff, Int.reduceToNat, Int.reduceNeg, Int.reduceLT, Int.reduceLE, Int.reduceEq, reduceCtorEq, Int.natCast_zero, Int.natCast_one, Int.cast_ofNat_Int, Bool.not_not, false_eq_decide, true_eq_decide, hread0, hreadk, read_cons0, read_consk, astore_h0, astore_hk, hget0, hgetk, hset0, hsetk, hlen, hcat, Nat.add_assoc, Nat.add_zero, Nat.zero_add, List.length_append, and_true, true_and, AV.flat, hbs2, get_app hbs2, read_get hbs2, read_app hbs2, astore_get hbs2, astore_app hbs2, get_set hbs2, get_set_app hbs2, read_set hbs2, read_set_app hbs2, astore_set hbs2, astore_set_app hbs2, List.set_set, hget0s, hgetks, hread0s, hreadks, List.length_set, *, -hK, -h1, -l1] | with_reducible refine IfB_dec (fun h => ?_) (fun h => ?_) | with_reducible refine Guard_dec (fun h => ?_) (fun h => ?_) | with_reducible refine Guard_ndec (fun h => ?_) (fun h => ?_) | with_reducible refine Guard_not (fun h => ?_) (fun h => ?_) | with_reducible refine IfB_ndec (fun h => ?_) (fun h => ?_) | with_reducible refine IfB_not (fun h => ?_) (fun h => ?_) | with_reducible refine Guard_split (fun h => ?_) (fun h => ?_) | with_reducible refine IfB_split (fun h => ?_) (fun h => ?_))
    have g3 := g2.setb hp [.int .u8 5, .int .i64 t0, .str [], .str [], .int .u32 0, .int .i64 0, .int .u64 0, .str [], .int .u8 0, .int .i64 0, .bool false]
    clear hbs2
    obtain ⟨t1, s3, es3⟩ : ∃ x s, numS 1099511627776 s2 = (x, s) := ⟨_, _, rfl⟩
    have ls3 := numS_len 1099511627776 s2
    rw [es3] at ls3
    simp only [es3] at hK
    have cs3 := num_spec p 1099511627776 (by omega) s2.l s2.bad (by omega) _ g3.hp
    rw [show (⟨s2.l, s2.bad⟩ : RS) = s2 from rfl, es3] at cs3
    simp only [Int.cast_ofNat_Int] at cs3
    refine cs3.mono ?_
    clear cs3
    rintro r Gs3 ⟨rfl, hG⟩
    have g4 := g3.setp hp hG
    clear hG es3
    have hbs3 := g4.hb
    simp only at ls3
    repeat' (first | simp only [go_sem, Nat.reduceLT, Nat.reduceEqDiff, Nat.reduceAdd, Nat.reduceMul, Nat.reduceSub, Nat.reduceLeDiff, Int.reduceToNat, Int.reduceNeg, Int.reduceLT, Int.reduceLE, Int.reduceEq, reduceCtorEq, Int.natCast_zero, Int.natCast_one, Int.cast_ofNat_Int, Bool.not_not, false_eq_decide, true_eq_decide, hread0, hreadk, read_cons0, read_consk, astore_h0, astore_hk, hget0, hgetk, hset0, hsetk, hlen, hcat, Nat.add_assoc, Nat.add_zero, Nat.zero_add, List.length_append, and_true, true_and, AV.flat, hbs3, get_app hbs3, read_get hbs3, read_app hbs3, astore_get hbs3, astore_app hbs3, get_set hbs3, get_set_app hbs3, read_set hbs3, read_set_app hbs3, astore_set hbs3, astore_set_app hbs3, List.set_set, hget0s, hgetks, hread0s, hreadks, List.length_set, *, -hK, -h1, -l1] | with_reducible refine IfB_dec (fun h => ?_) (fun h => ?_) | with_reducible refine Guard_dec (fun h => ?_) (fun h => ?_) | with_reducible refine Guard_ndec (fun h => ?_) (fun h => ?_) | with_reducible refine Guard_not (fun h => ?_) (fun h => ?_) | with_reducible refine IfB_ndec (fun h => ?_) (fun h => ?_) | with_reducible refine IfB_not (fun h => ?_) (fun h => ?_) | with_reducible refine Guard_split (fun h => ?_) (fun h => ?_) | with_reducible refine IfB_split (fun h => ?_) (fun h => ?_))
    have g5 := g4.setb hp [.int .u8 5, .int .i64 t0, .str [], .str [], .int .u32 0, .int .i64 0, .int .u64 0, .str [], .int .u8 0, .int .i64 t1, .bool false]
    clear hbs3
    have hzz := g5.hz
    have hbb := g5.hb
    repeat' (first | simp only [go_sem, Nat.reduceLT, Nat.reduceEqDiff, Nat.reduceAdd, Nat.reduceMul, Nat.reduceSub, Nat.reduceLeDiff, Int.reduceToNat, Int.reduceNeg, Int.reduceLT, Int.reduceLE, Int.reduceEq, reduceCtorEq, Int.natCast_zero, Int.natCast_one, Int.cast_ofNat_Int, Bool.not_not, false_eq_decide, true_eq_decide, hread0, hreadk, read_cons0, read_consk, astore_h0, astore_hk, hget0, hgetk, hset0, hsetk, hlen, hcat, Nat.add_assoc, Nat.add_zero, Nat.zero_add, List.length_append, and_true, true_and, AV.flat, hzz, get_app hzz, read_get hzz, read_app hzz, astore_get hzz, astore_app hzz, get_set hzz, get_set_app hzz, read_set hzz, read_set_app hzz, astore_set hzz, astore_set_app hzz, List.set_set, hget0s, hgetks, hread0s, hreadks, List.length_set, hbb, get_app hbb, read_get hbb, read_app hbb, *, -hK, -h1, -l1] | with_reducible refine IfB_dec (fun h => ?_) (fun h => ?_) | with_reducible refine Guard_dec (fun h => ?_) (fun h => ?_) | with_reducible refine Guard_ndec (fun h => ?_) (fun h => ?_) | with_reducible refine Guard_not (fun h => ?_) (fun h => ?_) | with_reducible refine IfB_ndec (fun h => ?_) (fun h => ?_) | with_reducible refine IfB_not (fun h => ?_) (fun h => ?_) | with_reducible refine Guard_split (fun h => ?_) (fun h => ?_) | with_reducible refine IfB_split (fun h => ?_) (fun h => ?_))
    exact hK _ _ ⟨rfl, g5.fin hp _⟩
  by_cases q6 : k0.toNat = 6
  · rw [q6] at hK b1
    simp only [Nat.reduceEqDiff, if_true, if_false, rd6, Int.cast_ofNat_Int] at hK b1
    clear q6
    refine WC_of_body hT Try.func60 rfl (by simp [Try.f60]) (by simp [Try.f60]) (wx_sound hT _ ?_)
    simp only [Try.f60]
    repeat' (first | simp only [go_sem, Nat.reduceLT, Nat.reduceEqDiff, Nat.reduceAdd, Nat.reduceMul, Nat.reduceSub, Nat.reduceLeDiff, Int.reduceToNat, Int.reduceNeg, Int.reduceLT, Int.reduceLE, Int.reduceEq, reduceCtorEq, Int.natCast_zero, Int.natCast_one, Int.cast_ofNat_Int, Bool.not_not, false_eq_decide, true_eq_decide, hread0, hreadk, read_cons0, read_consk, astore_h0, astore_hk, hget0, hgetk, hset0, hsetk, hlen, hcat, Nat.add_assoc, Nat.add_zero, Nat.zero_add, List.length_append, and_true, true_and, AV.flat, *, -hK, -b1, -h1, -l1] | refine WC.call (b1) ?_ | with_reducible refine IfB_dec (fun h => ?_) (fun h => ?_) | with_reducible refine Guard_dec (fun h => ?_) (fun h => ?_) | with_reducible refine Guard_ndec (fun h => ?_) (fun h => ?_) | with_reducible refine Guard_not (fun h => ?_) (fun h => ?_) | with_reducible refine IfB_ndec (fun h => ?_) (fun h => ?_) | with_reducible refine IfB_not (fun h => ?_) (fun h => ?_) | with_reducible refine Guard_split (fun h => ?_) (fun h => ?_) | with_reducible refine IfB_split (fun h => ?_) (fun h => ?_))
    clear b1
    generalize hG : (List.set (H ++ [(⟨[.int .u8 0, .int .i64 0, .str [], .str [], .int .u32 0, .int .i64 0, .int .u64 0, .str [], .int .u8 0, .int .i64 0, .bool false], 0, .full⟩ : Blk)]) p ⟨[Enc.u8.lst s1.l, .bool s1.bad], 0, .full⟩ ++ [(⟨[.int .u8 6, .int .i64 0, .str [], .str [], .int .u32 0, .int .i64 0, .int .u64 0, .str [], .int .u8 0, .int .i64 0, .bool false], 0, .full⟩ : Blk)] : Heap) = G
    have g1 : ChI H p s1 [.int .u8 6, .int .i64 0, .str [], .str [], .int .u32 0, .int .i64 0, .int .u64 0, .str [], .int .u8 0, .int .i64 0, .bool false] G := by
      subst hG
      refine ⟨by simp, ?_, ?_, ?_, fun b hb hne => ?_⟩
      · rw [List.getElem?_append_left (by simp; omega), List.getElem?_set_self (by simp; omega)]
      · rw [List.getElem?_append_left (by simp), List.getElem?_set_ne (by omega)]; simp
      · rw [List.getElem?_append_right (by simp)]; simp
      · rw [List.getElem?_append_left (by simp; omega), List.getElem?_set_ne (by omega), List.getElem?_append_left hb]
    clear hG
    obtain ⟨t0, s2, es2⟩ : ∃ x s, numS 1099511627776 s1 = (x, s) := ⟨_, _, rfl⟩
    have ls2 := numS_len 1099511627776 s1
    rw [es2] at ls2
    simp only [es2] at hK
    have cs2 := num_spec p 1099511627776 (by omega) s1.l s1.bad (by omega) _ g1.hp
    rw [show (⟨s1.l, s1.bad⟩ : RS) = s1 from rfl, es2] at cs2
    simp only [Int.cast_ofNat_Int] at cs2
    refine cs2.mono ?_
    clear cs2
    rintro r Gs2 ⟨rfl, hG⟩
    have g2 := g1.setp hp hG
    clear hG es2
    have hbs2 := g2.hb
    simp only at ls2
    repeat' (first | simp only [go_sem, Nat.reduceLT, Nat.reduceEqDiff, Nat.reduceAdd, Nat.reduceMul, Nat.reduceSub, Nat.reduceLeDiff, Int.reduceToNat, Int.reduceNeg, Int.reduceLT, Int.reduceLE, Int.reduceEq, reduceCtorEq, Int.natCast_zero, Int.natCast_one, Int.cast_ofNat_Int, Bool.not_not, false_eq_decide, true_eq_decide, hread0, hreadk, read_cons0, read_consk, astore_h0, astore_hk, hget0, hgetk, hset0, hsetk, hlen, hcat, Nat.add_assoc, Nat.add_zero, Nat.zero_add, List.length_append, and_true, true_and, AV.flat, hbs2, get_app hbs2, read_get hbs2, read_app hbs2, astore_get hbs2, astore_app hbs2, get_set hbs2, get_set_app hbs2, read_set hbs2, read_set_app hbs2, astore_set hbs2, astore_set_app hbs2, List.set_set, hget0s, hgetks, hread0s, hreadks, List.length_set, *, -hK, -h1, -l1] | with_reducible refine IfB_dec (fun h => ?_) (fun h => ?_) | with_reducible refine Guard_dec (fun h => ?_) (fun h => ?_) | with_reducible refine Guard_ndec (fun h => ?_) (fun h => ?_) | with_reducible refine Guard_not (fun h => ?_) (fun h => ?_) | with_reducible refine IfB_ndec (fun h => ?_) (fun h => ?_) | with_reducible refine IfB_not (fun h => ?_) (fun h => ?_) | with_reducible refine Guard_split (fun h => ?_) (fun h => ?_) | with_reducible refine IfB_split (fun h => ?_) (fun h => ?_))
    have g3 := g2.setb hp [.int .u8 6, .int .i64 0, .str [], .str [], .int .u32 0, .int .i64 0, .int .u64 0, .str [], .int .u8 0, .int .i64 t0, .bool false]
    clear hbs2
    obtain ⟨x0, s3, es3⟩ : ∃ x s, byteS s2 = (x, s) := ⟨_, _, rfl⟩
    have ls3 := byteS_len s2
    rw [es3] at ls3
    simp only [es3] at hK
    have cs3 := rbyte_spec p s2.l s2.bad (by omega) _ g3.hp
    rw [show (⟨s2.l, s2.bad⟩ : RS) = s2 from rfl, es3] at cs3
    refine cs3.mono ?_
    clear cs3
    rintro r Gs3 ⟨rfl, hG⟩
    have g4 := g3.setp hp hG
    clear hG es3
    have hbs3 := g4.hb
    simp only at ls3
    by_cases hx : x0.toNat = 1
    · have ix : (x0.toNat : Int) = 1 := by omega
      simp only [decide_eq_true hx] at hK
      clear hx
      repeat' (first | simp only [go_sem, Nat.reduceLT, Nat.reduceEqDiff, Nat.reduceAdd, Nat.reduceMul, Nat.reduceSub, Nat.reduceLeDiff, Int.reduceToNat, Int.reduceNeg, Int.reduceLT, Int.reduceLE, Int.reduceEq, reduceCtorEq, Int.natCast_zero, Int.natCast_one, Int.cast_ofNat_Int, Bool.not_not, false_eq_decide, true_eq_decide, hread0, hreadk, read_cons0, read_consk, astore_h0, astore_hk, hget0, hgetk, hset0, hsetk, hlen, hcat, Nat.add_assoc, Nat.add_zero, Nat.zero_add, List.length_append, and_true, true_and, AV.flat, hbs3, get_app hbs3, read_get hbs3, read_app hbs3, astore_get hbs3, astore_app hbs3, get_set hbs3, get_set_app hbs3, read_set hbs3, read_set_app hbs3, astore_set hbs3, astore_set_app hbs3, List.set_set, hget0s, hgetks, hread0s, hreadks, List.length_set, *, -hK, -h1, -l1] | with_reducible refine IfB_dec (fun h => ?_) (fun h => ?_) | with_reducible refine Guard_dec (fun h => ?_) (fun h => ?_) | with_reducible refine Guard_ndec (fun h => ?_) (fun h => ?_) | with_reducible refine Guard_not (fun h => ?_) (fun h => ?_) | with_reducible refine IfB_ndec (fun h => ?_) (fun h => ?_) | with_reducible refine IfB_not (fun h => ?_) (fun h => ?_) | with_reducible refine Guard_split (fun h => ?_) (fun h => ?_) | with_reducible refine IfB_split (fun h => ?_) (fun h => ?_))
      have g5 := g4.setb hp [.int .u8 6, .int .i64 0, .str [], .str [], .int .u32 0, .int .i64 0, .int .u64 0, .str [], .int .u8 0, .int .i64 t0, .bool true]
      clear hbs3
      have hzz := g5.hz
      have hbb := g5.hb
      repeat' (first | simp only [go_sem, Nat.reduceLT, Nat.reduceEqDiff, Nat.reduceAdd, Nat.reduceMul, Nat.reduceSub, Nat.reduceLeDiff, Int.reduceToNat, Int.reduceNeg, Int.reduceLT, Int.reduceLE, Int.reduceEq, reduceCtorEq, Int.natCast_zero, Int.natCast_one, Int.cast_ofNat_Int, Bool.not_not, false_eq_decide, true_eq_decide, hread0, hreadk, read_cons0, read_consk, astore_h0, astore_hk, hget0, hgetk, hset0, hsetk, hlen, hcat, Nat.add_assoc, Nat.add_zero, Nat.zero_add, List.length_append, and_true, true_and, AV.flat, hzz, get_app hzz, read_get hzz, read_app hzz, astore_get hzz, astore_app hzz, get_set hzz, get_set_app hzz, read_set hzz, read_set_app hzz, astore_set hzz, astore_set_app hzz, List.set_set, hget0s, hgetks, hread0s, hreadks, List.length_set, hbb, get_app hbb, read_get hbb, read_app hbb, *, -hK, -h1, -l1] | with_reducible refine IfB_dec (fun h => ?_) (fun h => ?_) | with_reducible refine Guard_dec (fun h => ?_) (fun h => ?_) | with_reducible refine Guard_ndec (fun h => ?_) (fun h => ?_) | with_reducible refine Guard_not (fun h => ?_) (fun h => ?_) | with_reducible refine IfB_ndec (fun h => ?_) (fun h => ?_) | with_reducible refine IfB_not (fun h => ?_) (fun h => ?_) | with_reducible refine Guard_split (fun h => ?_) (fun h => ?_) | with_reducible refine IfB_split (fun h => ?_) (fun h => ?_))
      exact hK _ _ ⟨rfl, g5.fin hp _⟩
    · have ix : ¬ (x0.toNat : Int) = 1 := by omega
      simp only [decide_eq_false hx] at hK
      clear hx
      repeat' (first | simp only [go_sem, Nat.reduceLT, Nat.reduceEqDiff, Nat.reduceAdd, Nat.reduceMul, Nat.reduceSub, Nat.reduceLeDiff, Int.reduceToNat, Int.reduceNeg, Int.reduceLT, Int.reduceLE, Int.reduceEq, reduceCtorEq, Int.natCast_zero, Int.natCast_one, Int.cast_ofNat_Int, Bool.not_not, false_eq_decide, true_eq_decide, hread0, hreadk, read_cons0, read_consk, astore_h0, astore_hk, hget0, hgetk, hset0, hsetk, hlen, hcat, Nat.add_assoc, Nat.add_zero, Nat.zero_add, List.length_append, and_true, true_and, AV.flat, hbs3, get_app hbs3, read_get hbs3, read_app hbs3, astore_get hbs3, astore_app hbs3, get_set hbs3, get_set_app hbs3, read_set hbs3, read_set_app hbs3, astore_set hbs3, astore_set_app hbs3, List.set_set, hget0s, hgetks, hread0s, hreadks, List.length_set, *, -hK, -h1, -l1] | with_reducible refine IfB_dec (fun h => ?_) (fun h => ?_) | with_reducible refine Guard_dec (fun h => ?_) (fun h => ?_) | with_reducible refine Guard_ndec (fun h => ?_) (fun h => ?_) | with_reducible refine Guard_not (fun h => ?_) (fun h => ?_) | with_reducible refine IfB_ndec (fun h => ?_) (fun h => ?_) | with_reducible refine IfB_not (fun h => ?_) (fun h => ?_) | with_reducible refine Guard_split (fun h => ?_) (fun h => ?_) | with_reducible refine IfB_split (fun h => ?_) (fun h => ?_))
      have g5 := g4.setb hp [.int .u8 6, .int .i64 0, .str [], .str [], .int .u32 0, .int .i64 0, .int .u64 0, .str [], .int .u8 0, .int .i64 t0, .bool false]
      clear hbs3
      have hzz := g5.hz
      have hbb := g5.hb
      repeat' (first | simp only [go_sem, Nat.reduceLT, Nat.reduceEqDiff, Nat.reduceAdd, Nat.reduceMul, Nat.reduceSub, Nat.reduceLeDiff, Int.reduceToNat, Int.reduceNeg, Int.reduceLT, Int.reduceLE, Int.reduceEq, reduceCtorEq, Int.natCast_zero, Int.natCast_one, Int.cast_ofNat_Int, Bool.not_not, false_eq_decide, true_eq_decide, hread0, hreadk, read_cons0, read_consk, astore_h0, astore_hk, hget0, hgetk, hset0, hsetk, hlen, hcat, Nat.add_assoc, Nat.add_zero, Nat.zero_add, List.length_append, and_true, true_and, AV.flat, hzz, get_app hzz, read_get hzz, read_app hzz, astore_get hzz, astore_app hzz, get_set hzz, get_set_app hzz, read_set hzz, read_set_app hzz, astore_set hzz, astore_set_app hzz, List.set_set, hget0s, hgetks, hread0s, hreadks, List.length_set, hbb, get_app hbb, read_get hbb, read_app hbb, *, -hK, -h1, -l1] | with_reducible refine IfB_dec (fun h => ?_) (fun h => ?_) | with_reducible refine Guard_dec (fun h => ?_) (fun h => ?_) | with_reducible refine Guard_ndec (fun h => ?_) (fun h => ?_) | with_reducible refine Guard_not (fun h => ?_) (fun h => ?_) | with_reducible refine IfB_ndec (fun h => ?_) (fun h => ?_) | with_reducible refine IfB_not (fun h => ?_) (fun h => ?_) | with_reducible refine Guard_split (fun h => ?_) (fun h => ?_) | with_reducible refine IfB_split (fun h => ?_) (fun h => ?_))
      exact hK _ _ ⟨rfl, g5.fin hp _⟩
  by_cases q2 : k0.toNat = 2
  · rw [q2] at hK b1
    simp only [Nat.reduceEqDiff, if_true, if_false, rd2, Int.cast_ofNat_Int] at hK b1
    clear q2
    refine WC_of_body hT Try.func60 rfl (by simp [Try.f60]) (by simp [Try.f60]) (wx_sound hT _ ?_)
    simp only [Try.f60]
    repeat' (first | simp only [go_sem, Nat.reduceLT, Nat.reduceEqDiff, Nat.reduceAdd, Nat.reduceMul, Nat.reduceSub, Nat.reduceLeDiff, Int.reduceToNat, Int.reduceNeg, Int.reduceLT, Int.reduceLE, Int.reduceEq, reduceCtorEq, Int.natCast_zero, Int.natCast_one, Int.cast_ofNat_Int, Bool.not_not, false_eq_decide, true_eq_decide, hread0, hreadk, read_cons0, read_consk, astore_h0, astore_hk, hget0, hgetk, hset0, hsetk, hlen, hcat, Nat.add_assoc, Nat.add_zero, Nat.zero_add, List.length_append, and_true, true_and, AV.flat, *, -hK, -b1, -h1, -l1] | refine WC.call (b1) ?_ | with_reducible refine IfB_dec (fun h => ?_) (fun h => ?_) | with_reducible refine Guard_dec (fun h => ?_) (fun h => ?_) | with_reducible refine Guard_ndec (fun h => ?_) (fun h => ?_) | with_reducible refine Guard_not (fun h => ?_) (fun h => ?_) | with_reducible refine IfB_ndec (fun h => ?_) (fun h => ?_) | with_reducible refine IfB_not (fun h => ?_) (fun h => ?_) | with_reducible refine Guard_split (fun h => ?_) (fun h => ?_) | with_reducible refine IfB_split (fun h => ?_) (fun h => ?_))
    clear b1
    generalize hG : (List.set (H ++ [(⟨[.int .u8 0, .int .i64 0, .str [], .str [], .int .u32 0, .int .i64 0, .int .u64 0, .str [], .int .u8 0, .int .i64 0, .bool false], 0, .full⟩ : Blk)]) p ⟨[Enc.u8.lst s1.l, .bool s1.bad], 0, .full⟩ ++ [(⟨[.int .u8 2, .int .i64 0, .str [], .str [], .int .u32 0, .int .i64 0, .int .u64 0, .str [], .int .u8 0, .int .i64 0, .bool false], 0, .full⟩ : Blk)] : Heap) = G
    have g1 : ChI H p s1 [.int .u8 2, .int .i64 0, .str [], .str [], .int .u32 0, .int .i64 0, .int .u64 0, .str [], .int .u8 0, .int .i64 0, .bool false] G := by
      subst hG
      refine ⟨by simp, ?_, ?_, ?_, fun b hb hne => ?_⟩
      · rw [List.getElem?_append_left (by simp; omega), List.getElem?_set_self (by simp; omega)]
      · rw [List.getElem?_append_left (by simp), List.getElem?_set_ne (by omega)]; simp
      · rw [List.getElem?_append_right (by simp)]; simp
      · rw [List.getElem?_append_left (by simp; omega), List.getElem?_set_ne (by omega), List.getElem?_append_left hb]
    clear hG
    obtain ⟨t0, s2, es2⟩ : ∃ x s, numS 4 s1 = (x, s) := ⟨_, _, rfl⟩
    have ls2 := numS_len 4 s1
    rw [es2] at ls2
    simp only [es2] at hK
    have cs2 := num_spec p 4 (by omega) s1.l s1.bad (by omega) _ g1.hp
    rw [show (⟨s1.l, s1.bad⟩ : RS) = s1 from rfl, es2] at cs2
    simp only [Int.cast_ofNat_Int] at cs2
    refine cs2.mono ?_
    clear cs2
    rintro r Gs2 ⟨rfl, hG⟩
    have g2 := g1.setp hp hG
    clear hG es2
    have hbs2 := g2.hb
    simp only at ls2
    repeat' (first | simp only [go_sem, Nat.reduceLT, Nat.reduceEqDiff, Nat.reduceAdd, Nat.reduceMul, Nat.reduceSub, Nat.reduceLeDiff, Int.reduceToNat, Int.reduceNeg, Int.reduceLT, Int.reduceLE, Int.reduceEq, reduceCtorEq, Int.natCast_zero, Int.natCast_one, Int.cast_ofNat_Int, Bool.not_not, false_eq_decide, true_eq_decide, hread0, hreadk, read_cons0, read_consk, astore_h0, astore_hk, hget0, hgetk, hset0, hsetk, hlen, hcat, Nat.add_assoc, Nat.add_zero, Nat.zero_add, List.length_append, and_true, true_and, AV.flat, hbs2, get_app hbs2, read_get hbs2, read_app hbs2, astore_get hbs2, astore_app hbs2, get_set hbs2, get_set_app hbs2, read_set hbs2, read_set_app hbs2, astore_set hbs2, astore_set_app hbs2, List.set_set, hget0s, hgetks, hread0s, hreadks, List.length_set, *, -hK, -h1, -l1] | with_reducible refine IfB_dec (fun h => ?_) (fun h => ?_) | with_reducible refine Guard_dec (fun h => ?_) (fun h => ?_) | with_reducible refine Guard_ndec (fun h => ?_) (fun h => ?_) | with_reducible refine Guard_not (fun h => ?_) (fun h => ?_) | with_reducible refine IfB_ndec (fun h => ?_) (fun h => ?_) | with_reducible refine IfB_not (fun h => ?_) (fun h => ?_) | with_reducible refine Guard_split (fun h => ?_) (fun h => ?_) | with_reducible refine IfB_split (fun h => ?_) (fun h => ?_))
    have g3 := g2.setb hp [.int .u8 2, .int .i64 t0, .str [], .str [], .int .u32 0, .int .i64 0, .int .u64 0, .str [], .int .u8 0, .int .i64 0, .bool false]
    clear hbs2
    obtain ⟨a0, s3, es3⟩ : ∃ x s, textS s2 = (x, s) := ⟨_, _, rfl⟩
    have ls3 := textS_len s2
    rw [es3] at ls3
    simp only [es3] at hK
    have cs3 := rtext_spec p s2.l s2.bad (by omega) _ g3.hp
    rw [show (⟨s2.l, s2.bad⟩ : RS) = s2 from rfl, es3] at cs3
    refine cs3.mono ?_
    clear cs3
    rintro r Gs3 ⟨rfl, hG⟩
    have g4 := g3.setp hp hG
    clear hG es3
    have hbs3 := g4.hb
    simp only at ls3
    repeat' (first | simp only [go_sem, Nat.reduceLT, Nat.reduceEqDiff, Nat.reduceAdd, Nat.reduceMul, Nat.reduceSub, Nat.reduceLeDiff, Int.reduceToNat, Int.reduceNeg, Int.reduceLT, Int.reduceLE, Int.reduceEq, reduceCtorEq, Int.natCast_zero, Int.natCast_one, Int.cast_ofNat_Int, Bool.not_not, false_eq_decide, true_eq_decide, hread0, hreadk, read_cons0, read_consk, astore_h0, astore_hk, hget0, hgetk, hset0, hsetk, hlen, hcat, Nat.add_assoc, Nat.add_zero, Nat.zero_add, List.length_append, and_true, true_and, AV.flat, hbs3, get_app hbs3, read_get hbs3, read_app hbs3, astore_get hbs3, astore_app hbs3, get_set hbs3, get_set_app hbs3, read_set hbs3, read_set_app hbs3, astore_set hbs3, astore_set_app hbs3, List.set_set, hget0s, hgetks, hread0s, hreadks, List.length_set, *, -hK, -h1, -l1] | with_reducible refine IfB_dec (fun h => ?_) (fun h => ?_) | with_reducible refine Guard_dec (fun h => ?_) (fun h => ?_) | with_reducible refine Guard_ndec (fun h => ?_) (fun h => ?_) | with_reducible refine Guard_not (fun h => ?_) (fun h => ?_) | with_reducible refine IfB_ndec (fun h => ?_) (fun h => ?_) | with_reducible refine IfB_not (fun h => ?_) (fun h => ?_) | with_reducible refine Guard_split (fun h => ?_) (fun h => ?_) | with_reducible refine IfB_split (fun h => ?_) (fun h => ?_))
    obtain ⟨w0, s4, es4⟩ : ∃ x s, byteS s3 = (x, s) := ⟨_, _, rfl⟩
    have ls4 := byteS_len s3
    rw [es4] at ls4
    simp only [es4] at hK
    have cs4 := rbyte_spec p s3.l s3.bad (by omega) _ g4.hp
    rw [show (⟨s3.l, s3.bad⟩ : RS) = s3 from rfl, es4] at cs4
    refine cs4.mono ?_
    clear cs4
    rintro r Gs4 ⟨rfl, hG⟩
    have g5 := g4.setp hp hG
    clear hG es4
    have hbs4 := g5.hb
    simp only at ls4
    clear hbs3
    repeat' (first | simp only [go_sem, Nat.reduceLT, Nat.reduceEqDiff, Nat.reduceAdd, Nat.reduceMul, Nat.reduceSub, Nat.reduceLeDiff, Int.reduceToNat, Int.reduceNeg, Int.reduceLT, Int.reduceLE, Int.reduceEq, reduceCtorEq, Int.natCast_zero, Int.natCast_one, Int.cast_ofNat_Int, Bool.not_not, false_eq_decide, true_eq_decide, hread0, hreadk, read_cons0, read_consk, astore_h0, astore_hk, hget0, hgetk, hset0, hsetk, hlen, hcat, Nat.add_assoc, Nat.add_zero, Nat.zero_add, List.length_append, and_true, true_and, AV.flat, hbs4, get_app hbs4, read_get hbs4, read_app hbs4, astore_get hbs4, astore_app hbs4, get_set hbs4, get_set_app hbs4, read_set hbs4, read_set_app hbs4, astore_set hbs4, astore_set_app hbs4, List.set_set, hget0s, hgetks, hread0s, hreadks, List.length_set, *, -hK, -h1, -l1] | with_reducible refine IfB_dec (fun h => ?_) (fun h => ?_) | with_reducible refine Guard_dec (fun h => ?_) (fun h => ?_) | with_reducible refine Guard_ndec (fun h => ?_) (fun h => ?_) | with_reducible refine Guard_not (fun h => ?_) (fun h => ?_) | with_reducible refine IfB_ndec (fun h => ?_) (fun h => ?_) | with_reducible refine IfB_not (fun h => ?_) (fun h => ?_) | with_reducible refine Guard_split (fun h => ?_) (fun h => ?_) | with_reducible refine IfB_split (fun h => ?_) (fun h => ?_))
    have g6 := g5.setb hp [.int .u8 2, .int .i64 t0, .str [], .str [], .int .u32 0, .int .i64 0, .int .u64 0, .str a0, .int .u8 w0.toNat, .int .i64 0, .bool false]
    clear hbs4
    have hzz := g6.hz
    have hbb := g6.hb
    repeat' (first | simp only [go_sem, Nat.reduceLT, Nat.reduceEqDiff, Nat.reduceAdd, Nat.reduceMul, Nat.reduceSub, Nat.reduceLeDiff, Int.reduceToNat, Int.reduceNeg, Int.reduceLT, Int.reduceLE, Int.reduceEq, reduceCtorEq, Int.natCast_zero, Int.natCast_one, Int.cast_ofNat_Int, Bool.not_not, false_eq_decide, true_eq_decide, hread0, hreadk, read_cons0, read_consk, astore_h0, astore_hk, hget0, hgetk, hset0, hsetk, hlen, hcat, Nat.add_assoc, Nat.add_zero, Nat.zero_add, List.length_append, and_true, true_and, AV.flat, hzz, get_app hzz, read_get hzz, read_app hzz, astore_get hzz, astore_app hzz, get_set hzz, get_set_app hzz, read_set hzz, read_set_app hzz, astore_set hzz, astore_set_app hzz, List.set_set, hget0s, hgetks, hread0s, hreadks, List.length_set, hbb, get_app hbb, read_get hbb, read_app hbb, *, -hK, -h1, -l1] | with_reducible refine IfB_dec (fun h => ?_) (fun h => ?_) | with_reducible refine Guard_dec (fun h => ?_) (fun h => ?_) | with_reducible refine Guard_ndec (fun h => ?_) (fun h => ?_) | with_reducible refine Guard_not (fun h => ?_) (fun h => ?_) | with_reducible refine IfB_ndec (fun h => ?_) (fun h => ?_) | with_reducible refine IfB_not (fun h => ?_) (fun h => ?_) | with_reducible refine Guard_split (fun h => ?_) (fun h => ?_) | with_reducible refine IfB_split (fun h => ?_) (fun h => ?_))
    exact hK _ _ ⟨rfl, g6.fin hp _⟩
  by_cases q1 : k0.toNat = 1
  · rw [q1] at hK b1
    simp only [Nat.reduceEqDiff, if_true, if_false, rd1, Int.cast_ofNat_Int] at hK b1
    clear q1
    refine WC_of_body hT Try.func60 rfl (by simp [Try.f60]) (by simp [Try.f60]) (wx_sound hT _ ?_)
    simp only [Try.f60]
    repeat' (first | simp only [go_sem, Nat.reduceLT, Nat.reduceEqDiff, Nat.reduceAdd, Nat.reduceMul, Nat.reduceSub, Nat.reduceLeDiff, Int.reduceToNat, Int.reduceNeg, Int.reduceLT, Int.reduceLE, Int.reduceEq, reduceCtorEq, Int.natCast_zero, Int.natCast_one, Int.cast_ofNat_Int, Bool.not_not, false_eq_decide, true_eq_decide, hread0, hreadk, read_cons0, read_consk, astore_h0, astore_hk, hget0, hgetk, hset0, hsetk, hlen, hcat, Nat.add_assoc, Nat.add_zero, Nat.zero_add, List.length_append, and_true, true_and, AV.flat, *, -hK, -b1, -h1, -l1] | refine WC.call (b1) ?_ | with_reducible refine IfB_dec (fun h => ?_) (fun h => ?_) | with_reducible refine Guard_dec (fun h => ?_) (fun h => ?_) | with_reducible refine Guard_ndec (fun h => ?_) (fun h => ?_) | with_reducible refine Guard_not (fun h => ?_) (fun h => ?_) | with_reducible refine IfB_ndec (fun h => ?_) (fun h => ?_) | with_reducible refine IfB_not (fun h => ?_) (fun h => ?_) | with_reducible refine Guard_split (fun h => ?_) (fun h => ?_) | with_reducible refine IfB_split (fun h => ?_) (fun h => ?_))
    clear b1
    generalize hG : (List.set (H ++ [(⟨[.int .u8 0, .int .i64 0, .str [], .str [], .int .u32 0, .int .i64 0, .int .u64 0, .str [], .int .u8 0, .int .i64 0, .bool false], 0, .full⟩ : Blk)]) p ⟨[Enc.u8.lst s1.l, .bool s1.bad], 0, .full⟩ ++ [(⟨[.int .u8 1, .int .i64 0, .str [], .str [], .int .u32 0, .int .i64 0, .int .u64 0, .str [], .int .u8 0, .int .i64 0, .bool false], 0, .full⟩ : Blk)] : Heap) = G
    have g1 : ChI H p s1 [.int .u8 1, .int .i64 0, .str [], .str [], .int .u32 0, .int .i64 0, .int .u64 0, .str [], .int .u8 0, .int .i64 0, .bool false] G := by
      subst hG
      refine ⟨by simp, ?_, ?_, ?_, fun b hb hne => ?_⟩
      · rw [List.getElem?_append_left (by simp; omega), List.getElem?_set_self (by simp; omega)]
      · rw [List.getElem?_append_left (by simp), List.getElem?_set_ne (by omega)]; simp
      · rw [List.getElem?_append_right (by simp)]; simp
      · rw [List.getElem?_append_left (by simp; omega), List.getElem?_set_ne (by omega), List.getElem?_append_left hb]
    clear hG
    obtain ⟨t0, s2, es2⟩ : ∃ x s, numS 4 s1 = (x, s) := ⟨_, _, rfl⟩
    have ls2 := numS_len 4 s1
    rw [es2] at ls2
    simp only [es2] at hK
    have cs2 := num_spec p 4 (by omega) s1.l s1.bad (by omega) _ g1.hp
    rw [show (⟨s1.l, s1.bad⟩ : RS) = s1 from rfl, es2] at cs2
    simp only [Int.cast_ofNat_Int] at cs2
    refine cs2.mono ?_
    clear cs2
    rintro r Gs2 ⟨rfl, hG⟩
    have g2 := g1.setp hp hG
    clear hG es2
    have hbs2 := g2.hb
    simp only at ls2
    repeat' (first | simp only [go_sem, Nat.reduceLT, Nat.reduceEqDiff, Nat.reduceAdd, Nat.reduceMul, Nat.reduceSub, Nat.reduceLeDiff, Int.reduceToNat, Int.reduceNeg, Int.reduceLT, Int.reduceLE, Int.reduceEq, reduceCtorEq, Int.natCast_zero, Int.natCast_one, Int.cast_ofNat_Int, Bool.not_not, false_eq_decide, true_eq_decide, hread0, hreadk, read_cons0, read_consk, astore_h0, astore_hk, hget0, hgetk, hset0, hsetk, hlen, hcat, Nat.add_assoc, Nat.add_zero, Nat.zero_add, List.length_append, and_true, true_and, AV.flat, hbs2, get_app hbs2, read_get hbs2, read_app hbs2, astore_get hbs2, astore_app hbs2, get_set hbs2, get_set_app hbs2, read_set hbs2, read_set_app hbs2, astore_set hbs2, astore_set_app hbs2, List.set_set, hget0s, hgetks, hread0s, hreadks, List.length_set, *, -hK, -h1, -l1] | with_reducible refine IfB_dec (fun h => ?_) (fun h => ?_) | with_reducible refine Guard_dec (fun h => ?_) (fun h => ?_) | with_reducible refine Guard_ndec (fun h => ?_) (fun h => ?_) | with_reducible refine Guard_not (fun h => ?_) (fun h => ?_) | with_reducible refine IfB_ndec (fun h => ?_) (fun h => ?_) | with_reducible refine IfB_not (fun h => ?_) (fun h => ?_) | with_reducible refine Guard_split (fun h => ?_) (fun h => ?_) | with_reducible refine IfB_split (fun h => ?_) (fun h => ?_))
    have g3 := g2.setb hp [.int .u8 1, .int .i64 t0, .str [], .str [], .int .u32 0, .int .i64 0, .int .u64 0, .str [], .int .u8 0, .int .i64 0, .bool false]
    clear hbs2
    obtain ⟨a0, s3, es3⟩ : ∃ x s, textS s2 = (x, s) := ⟨_, _, rfl⟩
    have ls3 := textS_len s2
    rw [es3] at ls3
    simp only [es3] at hK
    have cs3 := rtext_spec p s2.l s2.bad (by omega) _ g3.hp
    rw [show (⟨s2.l, s2.bad⟩ : RS) = s2 from rfl, es3] at cs3
    refine cs3.mono ?_
    clear cs3
    rintro r Gs3 ⟨rfl, hG⟩
    have g4 := g3.setp hp hG
    clear hG es3
    have hbs3 := g4.hb
    simp only at ls3
    repeat' (first | simp only [go_sem, Nat.reduceLT, Nat.reduceEqDiff, Nat.reduceAdd, Nat.reduceMul, Nat.reduceSub, Nat.reduceLeDiff, Int.reduceToNat, Int.reduceNeg, Int.reduceLT, Int.reduceLE, Int.reduceEq, reduceCtorEq, Int.natCast_zero, Int.natCast_one, Int.cast_ofNat_Int, Bool.not_not, false_eq_decide, true_eq_decide, hread0, hreadk, read_cons0, read_consk, astore_h0, astore_hk, hget0, hgetk, hset0, hsetk, hlen, hcat, Nat.add_assoc, Nat.add_zero, Nat.zero_add, List.length_append, and_true, true_and, AV.flat, *, -hK, -h1, -l1] | with_reducible refine IfB_dec (fun h => ?_) (fun h => ?_) | with_reducible refine Guard_dec (fun h => ?_) (fun h => ?_) | with_reducible refine Guard_ndec (fun h => ?_) (fun h => ?_) | with_reducible refine Guard_not (fun h => ?_) (fun h => ?_) | with_reducible refine IfB_ndec (fun h => ?_) (fun h => ?_) | with_reducible refine IfB_not (fun h => ?_) (fun h => ?_) | with_reducible refine Guard_split (fun h => ?_) (fun h => ?_) | with_reducible refine IfB_split (fun h => ?_) (fun h => ?_))
    obtain ⟨b0, s4, es4⟩ : ∃ x s, textS s3 = (x, s) := ⟨_, _, rfl⟩
    have ls4 := textS_len s3
    rw [es4] at ls4
    simp only [es4] at hK
    have cs4 := rtext_spec p s3.l s3.bad (by omega) _ g4.hp
    rw [show (⟨s3.l, s3.bad⟩ : RS) = s3 from rfl, es4] at cs4
    refine cs4.mono ?_
    clear cs4
    rintro r Gs4 ⟨rfl, hG⟩
    have g5 := g4.setp hp hG
    clear hG es4
    have hbs4 := g5.hb
    simp only at ls4
    clear hbs3
    repeat' (first | simp only [go_sem, Nat.reduceLT, Nat.reduceEqDiff, Nat.reduceAdd, Nat.reduceMul, Nat.reduceSub, Nat.reduceLeDiff, Int.reduceToNat, Int.reduceNeg, Int.reduceLT, Int.reduceLE, Int.reduceEq, reduceCtorEq, Int.natCast_zero, Int.natCast_one, Int.cast_ofNat_Int, Bool.not_not, false_eq_decide, true_eq_decide, hread0, hreadk, read_cons0, read_consk, astore_h0, astore_hk, hget0, hgetk, hset0, hsetk, hlen, hcat, Nat.add_assoc, Nat.add_zero, Nat.zero_add, List.length_append, and_true, true_and, AV.flat, *, -hK, -h1, -l1] | with_reducible refine IfB_dec (fun h => ?_) (fun h => ?_) | with_reducible refine Guard_dec (fun h => ?_) (fun h => ?_) | with_reducible refine Guard_ndec (fun h => ?_) (fun h => ?_) | with_reducible refine Guard_not (fun h => ?_) (fun h => ?_) | with_reducible refine IfB_ndec (fun h => ?_) (fun h => ?_) | with_reducible refine IfB_not (fun h => ?_) (fun h => ?_) | with_reducible refine Guard_split (fun h => ?_) (fun h => ?_) | with_reducible refine IfB_split (fun h => ?_) (fun h => ?_))
    have mf := numS_le 4294967295 s4
    obtain ⟨f0, s5, es5⟩ : ∃ x s, numS 4294967295 s4 = (x, s) := ⟨_, _, rfl⟩
    have ls5 := numS_len 4294967295 s4
    rw [es5] at ls5 mf
    simp only [es5] at hK
    have cs5 := num_spec p 4294967295 (by omega) s4.l s4.bad (by omega) _ g5.hp
    rw [show (⟨s4.l, s4.bad⟩ : RS) = s4 from rfl, es5] at cs5
    simp only [Int.cast_ofNat_Int] at cs5
    refine cs5.mono ?_
    clear cs5
    rintro r Gs5 ⟨rfl, hG⟩
    have g6 := g5.setp hp hG
    clear hG es5
    have hbs5 := g6.hb
    simp only at ls5
    clear hbs4
    simp only at mf
    have hfw : IntKind.u32.wrap (f0 : Int) = f0 := by rw [IntKind.wrap_u32]; omega
    repeat' (first | simp only [go_sem, Nat.reduceLT, Nat.reduceEqDiff, Nat.reduceAdd, Nat.reduceMul, Nat.reduceSub, Nat.reduceLeDiff, Int.reduceToNat, Int.reduceNeg, Int.reduceLT, Int.reduceLE, Int.reduceEq, reduceCtorEq, Int.natCast_zero, Int.natCast_one, Int.cast_ofNat_Int, Bool.not_not, false_eq_decide, true_eq_decide, hread0, hreadk, read_cons0, read_consk, astore_h0, astore_hk, hget0, hgetk, hset0, hsetk, hlen, hcat, Nat.add_assoc, Nat.add_zero, Nat.zero_add, List.length_append, and_true, true_and, AV.flat, *, -hK, -h1, -l1, -mf] | with_reducible refine IfB_dec (fun h => ?_) (fun h => ?_) | with_reducible refine Guard_dec (fun h => ?_) (fun h => ?_) | with_reducible refine Guard_ndec (fun h => ?_) (fun h => ?_) | with_reducible refine Guard_not (fun h => ?_) (fun h => ?_) | with_reducible refine IfB_ndec (fun h => ?_) (fun h => ?_) | with_reducible refine IfB_not (fun h => ?_) (fun h => ?_) | with_reducible refine Guard_split (fun h => ?_) (fun h => ?_) | with_reducible refine IfB_split (fun h => ?_) (fun h => ?_))
    obtain ⟨d0, s6, es6⟩ : ∃ x s, numS 1099511627776 s5 = (x, s) := ⟨_, _, rfl⟩
    have ls6 := numS_len 1099511627776 s5
    rw [es6] at ls6
    simp only [es6] at hK
    have cs6 := num_spec p 1099511627776 (by omega) s5.l s5.bad (by omega) _ g6.hp
    rw [show (⟨s5.l, s5.bad⟩ : RS) = s5 from rfl, es6] at cs6
    simp only [Int.cast_ofNat_Int] at cs6
    refine cs6.mono ?_
    clear cs6
    rintro r Gs6 ⟨rfl, hG⟩
    have g7 := g6.setp hp hG
    clear hG es6
    have hbs6 := g7.hb
    simp only at ls6
    clear hbs5
    repeat' (first | simp only [go_sem, Nat.reduceLT, Nat.reduceEqDiff, Nat.reduceAdd, Nat.reduceMul, Nat.reduceSub, Nat.reduceLeDiff, Int.reduceToNat, Int.reduceNeg, Int.reduceLT, Int.reduceLE, Int.reduceEq, reduceCtorEq, Int.natCast_zero, Int.natCast_one, Int.cast_ofNat_Int, Bool.not_not, false_eq_decide, true_eq_decide, hread0, hreadk, read_cons0, read_consk, astore_h0, astore_hk, hget0, hgetk, hset0, hsetk, hlen, hcat, Nat.add_assoc, Nat.add_zero, Nat.zero_add, List.length_append, and_true, true_and, AV.flat, *, -hK, -h1, -l1, -mf] | with_reducible refine IfB_dec (fun h => ?_) (fun h => ?_) | with_reducible refine Guard_dec (fun h => ?_) (fun h => ?_) | with_reducible refine Guard_ndec (fun h => ?_) (fun h => ?_) | with_reducible refine Guard_not (fun h => ?_) (fun h => ?_) | with_reducible refine IfB_ndec (fun h => ?_) (fun h => ?_) | with_reducible refine IfB_not (fun h => ?_) (fun h => ?_) | with_reducible refine Guard_split (fun h => ?_) (fun h => ?_) | with_reducible refine IfB_split (fun h => ?_) (fun h => ?_))
    obtain ⟨u0, s7, es7⟩ : ∃ x s, wideS s6 = (x, s) := ⟨_, _, rfl⟩
    have ls7 := wideS_len s6
    rw [es7] at ls7
    simp only [es7] at hK
    have cs7 := wide_spec p s6.l s6.bad (by omega) _ g7.hp
    rw [show (⟨s6.l, s6.bad⟩ : RS) = s6 from rfl, es7] at cs7
    refine cs7.mono ?_
    clear cs7
    rintro r Gs7 ⟨rfl, hG⟩
    have g8 := g7.setp hp hG
    clear hG es7
    have hbs7 := g8.hb
    simp only at ls7
    clear hbs6
    repeat' (first | simp only [go_sem, Nat.reduceLT, Nat.reduceEqDiff, Nat.reduceAdd, Nat.reduceMul, Nat.reduceSub, Nat.reduceLeDiff, Int.reduceToNat, Int.reduceNeg, Int.reduceLT, Int.reduceLE, Int.reduceEq, reduceCtorEq, Int.natCast_zero, Int.natCast_one, Int.cast_ofNat_Int, Bool.not_not, false_eq_decide, true_eq_decide, hread0, hreadk, read_cons0, read_consk, astore_h0, astore_hk, hget0, hgetk, hset0, hsetk, hlen, hcat, Nat.add_assoc, Nat.add_zero, Nat.zero_add, List.length_append, and_true, true_and, AV.flat, hbs7, get_app hbs7, read_get hbs7, read_app hbs7, astore_get hbs7, astore_app hbs7, get_set hbs7, get_set_app hbs7, read_set hbs7, read_set_app hbs7, astore_set hbs7, astore_set_app hbs7, List.set_set, hget0s, hgetks, hread0s, hreadks, List.length_set, *, -hK, -h1, -l1, -mf] | with_reducible refine IfB_dec (fun h => ?_) (fun h => ?_) | with_reducible refine Guard_dec (fun h => ?_) (fun h => ?_) | with_reducible refine Guard_ndec (fun h => ?_) (fun h => ?_) | with_reducible refine Guard_not (fun h => ?_) (fun h => ?_) | with_reducible refine IfB_ndec (fun h => ?_) (fun h => ?_) | with_reducible refine IfB_not (fun h => ?_) (fun h => ?_) | with_reducible refine Guard_split (fun h => ?_) (fun h => ?_) | with_reducible refine IfB_split (fun h => ?_) (fun h => ?_))
    have g9 := g8.setb hp [.int .u8 1, .int .i64 t0, .str a0, .str b0, .int .u32 f0, .int .i64 d0, .int .u64 u0, .str [], .int .u8 0, .int .i64 0, .bool false]
    clear hbs7
    have hzz := g9.hz
    have hbb := g9.hb
    repeat' (first | simp only [go_sem, Nat.reduceLT, Nat.reduceEqDiff, Nat.reduceAdd, Nat.reduceMul, Nat.reduceSub, Nat.reduceLeDiff, Int.reduceToNat, Int.reduceNeg, Int.reduceLT, Int.reduceLE, Int.reduceEq, reduceCtorEq, Int.natCast_zero, Int.natCast_one, Int.cast_ofNat_Int, Bool.not_not, false_eq_decide, true_eq_decide, hread0, hreadk, read_cons0, read_consk, astore_h0, astore_hk, hget0, hgetk, hset0, hsetk, hlen, hcat, Nat.add_assoc, Nat.add_zero, Nat.zero_add, List.length_append, and_true, true_and, AV.flat, hzz, get_app hzz, read_get hzz, read_app hzz, astore_get hzz, astore_app hzz, get_set hzz, get_set_app hzz, read_set hzz, read_set_app hzz, astore_set hzz, astore_set_app hzz, List.set_set, hget0s, hgetks, hread0s, hreadks, List.length_set, hbb, get_app hbb, read_get hbb, read_app hbb, *, -hK, -h1, -l1] | with_reducible refine IfB_dec (fun h => ?_) (fun h => ?_) | with_reducible refine Guard_dec (fun h => ?_) (fun h => ?_) | with_reducible refine Guard_ndec (fun h => ?_) (fun h => ?_) | with_reducible refine Guard_not (fun h => ?_) (fun h => ?_) | with_reducible refine IfB_ndec (fun h => ?_) (fun h => ?_) | with_reducible refine IfB_not (fun h => ?_) (fun h => ?_) | with_reducible refine Guard_split (fun h => ?_) (fun h => ?_) | with_reducible refine IfB_split (fun h => ?_) (fun h => ?_))
    exact hK _ _ ⟨rfl, g9.fin hp _⟩
  have i1 : ¬ (k0.toNat : Int) = 1 := by omega
  have i2 : ¬ (k0.toNat : Int) = 2 := by omega
  have i3 : ¬ (k0.toNat : Int) = 3 := by omega
  have i4 : ¬ (k0.toNat : Int) = 4 := by omega
  have i5 : ¬ (k0.toNat : Int) = 5 := by omega
  have i6 : ¬ (k0.toNat : Int) = 6 := by omega
  have i7 : ¬ (k0.toNat : Int) = 7 := by omega
  rw [if_neg q1, if_neg q2, if_neg q3, if_neg q4, if_neg q5, if_neg q6, if_neg q7] at hK
  simp only [chg0, id] at hK
  clear q1 q2 q3 q4 q5 q6 q7
  refine WC_of_body hT Try.func60 rfl (by simp [Try.f60]) (by simp [Try.f60]) (wx_sound hT _ ?_)
  simp only [Try.f60]
  repeat' (first | simp only [go_sem, Nat.reduceLT, Nat.reduceEqDiff, Nat.reduceAdd, Nat.reduceMul, Nat.reduceSub, Nat.reduceLeDiff, Int.reduceToNat, Int.reduceNeg, Int.reduceLT, Int.reduceLE, Int.reduceEq, reduceCtorEq, Int.natCast_zero, Int.natCast_one, Int.cast_ofNat_Int, Bool.not_not, false_eq_decide, true_eq_decide, hread0, hreadk, read_cons0, read_consk, astore_h0, astore_hk, hget0, hgetk, hset0, hsetk, hlen, hcat, Nat.add_assoc, Nat.add_zero, Nat.zero_add, List.length_append, and_true, true_and, AV.flat, *, -hK, -b1, -h1, -l1] | refine WC.call (b1) ?_ | with_reducible refine IfB_dec (fun h => ?_) (fun h => ?_) | with_reducible refine Guard_dec (fun h => ?_) (fun h => ?_) | with_reducible refine Guard_ndec (fun h => ?_) (fun h => ?_) | with_reducible refine Guard_not (fun h => ?_) (fun h => ?_) | with_reducible refine IfB_ndec (fun h => ?_) (fun h => ?_) | with_reducible refine IfB_not (fun h => ?_) (fun h => ?_) | with_reducible refine Guard_split (fun h => ?_) (fun h => ?_) | with_reducible refine IfB_split (fun h => ?_) (fun h => ?_))
  clear b1
  generalize hG : (List.set (H ++ [(⟨[.int .u8 0, .int .i64 0, .str [], .str [], .int .u32 0, .int .i64 0, .int .u64 0, .str [], .int .u8 0, .int .i64 0, .bool false], 0, .full⟩ : Blk)]) p ⟨[Enc.u8.lst s1.l, .bool s1.bad], 0, .full⟩ ++ [(⟨[.int .u8 k0.toNat, .int .i64 0, .str [], .str [], .int .u32 0, .int .i64 0, .int .u64 0, .str [], .int .u8 0, .int .i64 0, .bool false], 0, .full⟩ : Blk)] : Heap) = G
  have g1 : ChI H p s1 [.int .u8 k0.toNat, .int .i64 0, .str [], .str [], .int .u32 0, .int .i64 0, .int .u64 0, .str [], .int .u8 0, .int .i64 0, .bool false] G := by
    subst hG
    refine ⟨by simp, ?_, ?_, ?_, fun b hb hne => ?_⟩
    · rw [List.getElem?_append_left (by simp; omega), List.getElem?_set_self (by simp; omega)]
    · rw [List.getElem?_append_left (by simp), List.getElem?_set_ne (by omega)]; simp
    · rw [List.getElem?_append_right (by simp)]; simp
    · rw [List.getElem?_append_left (by simp; omega), List.getElem?_set_ne (by omega), List.getElem?_append_left hb]
  clear hG
  have hzz := g1.hz
  have hbb := g1.hb
  repeat' (first | simp only [go_sem, Nat.reduceLT, Nat.reduceEqDiff, Nat.reduceAdd, Nat.reduceMul, Nat.reduceSub, Nat.reduceLeDiff, Int.reduceToNat, Int.reduceNeg, Int.reduceLT, Int.reduceLE, Int.reduceEq, reduceCtorEq, Int.natCast_zero, Int.natCast_one, Int.cast_ofNat_Int, Bool.not_not, false_eq_decide, true_eq_decide, hread0, hreadk, read_cons0, read_consk, astore_h0, astore_hk, hget0, hgetk, hset0, hsetk, hlen, hcat, Nat.add_assoc, Nat.add_zero, Nat.zero_add, List.length_append, and_true, true_and, AV.flat, hzz, get_app hzz, read_get hzz, read_app hzz, astore_get hzz, astore_app hzz, get_set hzz, get_set_app hzz, read_set hzz, read_set_app hzz, astore_set hzz, astore_set_app hzz, List.set_set, hget0s, hgetks, hread0s, hreadks, List.length_set, hbb, get_app hbb, read_get hbb, read_app hbb, *, -hK, -h1, -l1] | with_reducible refine IfB_dec (fun h => ?_) (fun h => ?_) | with_reducible refine Guard_dec (fun h => ?_) (fun h => ?_) | with_reducible refine Guard_ndec (fun h => ?_) (fun h => ?_) | with_reducible refine Guard_not (fun h => ?_) (fun h => ?_) | with_reducible refine IfB_ndec (fun h => ?_) (fun h => ?_) | with_reducible refine IfB_not (fun h => ?_) (fun h => ?_) | with_reducible refine Guard_split (fun h => ?_) (fun h => ?_) | with_reducible refine IfB_split (fun h => ?_) (fun h => ?_))
  exact hK _ _ ⟨rfl, g1.fin hp _⟩
open Go Go.Proofs Go.Proofs.PI
deriving instance DecidableEq for Chg
/-! ### the document: may a change be? -/
theorem bare_spec (c : Chg) (H : Heap) : WC Try.prog 64 [c.av] H fun r H' => r = c.bare.av ∧ H' = H := by
  refine WC_val fun K hK => ?_
  obtain ⟨kind, ten, ikey, ival, ifl, idue, iuniq, key, why, to, prim⟩ := c
  unfold Chg.av Chg.bare at *
  simp only at *
  by_cases k1 : kind = 1
  · subst k1
    refine WC_of_body hT Try.func64 rfl (by simp [Try.f64]) (by simp [Try.f64]) (wx_sound hT _ ?_)
    simp only [Try.f64]
    repeat' (first | simp only [go_sem, Nat.reduceLT, Nat.reduceEqDiff, Nat.reduceAdd, Nat.reduceMul, Nat.reduceSub, Nat.reduceLeDiff, Int.reduceToNat, Int.reduceNeg, Int.reduceLT, Int.reduceLE, Int.reduceEq, reduceCtorEq, Int.natCast_zero, Int.natCast_one, Int.cast_ofNat_Int, Bool.not_not, false_eq_decide, true_eq_decide, hread0, hreadk, read_cons0, read_consk, astore_h0, astore_hk, hget0, hgetk, hset0, hsetk, hlen, hcat, Nat.add_assoc, Nat.add_zero, Nat.zero_add, List.length_append, and_true, true_and, AV.flat, *, -hK] | with_reducible refine IfB_dec (fun h => ?_) (fun h => ?_) | with_reducible refine Guard_dec (fun h => ?_) (fun h => ?_) | with_reducible refine Guard_ndec (fun h => ?_) (fun h => ?_) | with_reducible refine Guard_not (fun h => ?_) (fun h => ?_) | with_reducible refine IfB_ndec (fun h => ?_) (fun h => ?_) | with_reducible refine IfB_not (fun h => ?_) (fun h => ?_) | with_reducible refine Guard_split (fun h => ?_) (fun h => ?_) | with_reducible refine IfB_split (fun h => ?_) (fun h => ?_))
    exact hK _ _ (Thaw.agg_row ⟨.int _ _, .int _ _, .str _, .str _, .int _ _, .int _ _, .int _ _, .str _, .int _ _, .int _ _, .bool _, trivial⟩) (Keep.app _ _ _)
  by_cases k2 : kind = 2
  · subst k2
    refine WC_of_body hT Try.func64 rfl (by simp [Try.f64]) (by simp [Try.f64]) (wx_sound hT _ ?_)
    simp only [Try.f64]
    repeat' (first | simp only [go_sem, Nat.reduceLT, Nat.reduceEqDiff, Nat.reduceAdd, Nat.reduceMul, Nat.reduceSub, Nat.reduceLeDiff, Int.reduceToNat, Int.reduceNeg, Int.reduceLT, Int.reduceLE, Int.reduceEq, reduceCtorEq, Int.natCast_zero, Int.natCast_one, Int.cast_ofNat_Int, Bool.not_not, false_eq_decide, true_eq_decide, hread0, hreadk, read_cons0, read_consk, astore_h0, astore_hk, hget0, hgetk, hset0, hsetk, hlen, hcat, Nat.add_assoc, Nat.add_zero, Nat.zero_add, List.length_append, and_true, true_and, AV.flat, *, -hK] | with_reducible refine IfB_dec (fun h => ?_) (fun h => ?_) | with_reducible refine Guard_dec (fun h => ?_) (fun h => ?_) | with_reducible refine Guard_ndec (fun h => ?_) (fun h => ?_) | with_reducible refine Guard_not (fun h => ?_) (fun h => ?_) | with_reducible refine IfB_ndec (fun h => ?_) (fun h => ?_) | with_reducible refine IfB_not (fun h => ?_) (fun h => ?_) | with_reducible refine Guard_split (fun h => ?_) (fun h => ?_) | with_reducible refine IfB_split (fun h => ?_) (fun h => ?_))
    exact hK _ _ (Thaw.agg_row ⟨.int _ _, .int _ _, .str _, .str _, .int _ _, .int _ _, .int _ _, .str _, .int _ _, .int _ _, .bool _, trivial⟩) (Keep.app _ _ _)
  by_cases k3 : kind = 3
  · subst k3
    refine WC_of_body hT Try.func64 rfl (by simp [Try.f64]) (by simp [Try.f64]) (wx_sound hT _ ?_)
    simp only [Try.f64]
    repeat' (first | simp only [go_sem, Nat.reduceLT, Nat.reduceEqDiff, Nat.reduceAdd, Nat.reduceMul, Nat.reduceSub, Nat.reduceLeDiff, Int.reduceToNat, Int.reduceNeg, Int.reduceLT, Int.reduceLE, Int.reduceEq, reduceCtorEq, Int.natCast_zero, Int.natCast_one, Int.cast_ofNat_Int, Bool.not_not, false_eq_decide, true_eq_decide, hread0, hreadk, read_cons0, read_consk, astore_h0, astore_hk, hget0, hgetk, hset0, hsetk, hlen, hcat, Nat.add_assoc, Nat.add_zero, Nat.zero_add, List.length_append, and_true, true_and, AV.flat, *, -hK] | with_reducible refine IfB_dec (fun h => ?_) (fun h => ?_) | with_reducible refine Guard_dec (fun h => ?_) (fun h => ?_) | with_reducible refine Guard_ndec (fun h => ?_) (fun h => ?_) | with_reducible refine Guard_not (fun h => ?_) (fun h => ?_) | with_reducible refine IfB_ndec (fun h => ?_) (fun h => ?_) | with_reducible refine IfB_not (fun h => ?_) (fun h => ?_) | with_reducible refine Guard_split (fun h => ?_) (fun h => ?_) | with_reducible refine IfB_split (fun h => ?_) (fun h => ?_))
    exact hK _ _ (Thaw.agg_row ⟨.int _ _, .int _ _, .str _, .str _, .int _ _, .int _ _, .int _ _, .str _, .int _ _, .int _ _, .bool _, trivial⟩) (Keep.app _ _ _)
  by_cases k4 : kind = 4
  · subst k4
    refine WC_of_body hT Try.func64 rfl (by simp [Try.f64]) (by simp [Try.f64]) (wx_sound hT _ ?_)
    simp only [Try.f64]
    repeat' (first | simp only [go_sem, Nat.reduceLT, Nat.reduceEqDiff, Nat.reduceAdd, Nat.reduceMul, Nat.reduceSub, Nat.reduceLeDiff, Int.reduceToNat, Int.reduceNeg, Int.reduceLT, Int.reduceLE, Int.reduceEq, reduceCtorEq, Int.natCast_zero, Int.natCast_one, Int.cast_ofNat_Int, Bool.not_not, false_eq_decide, true_eq_decide, hread0, hreadk, read_cons0, read_consk, astore_h0, astore_hk, hget0, hgetk, hset0, hsetk, hlen, hcat, Nat.add_assoc, Nat.add_zero, Nat.zero_add, List.length_append, and_true, true_and, AV.flat, *, -hK] | with_reducible refine IfB_dec (fun h => ?_) (fun h => ?_) | with_reducible refine Guard_dec (fun h => ?_) (fun h => ?_) | with_reducible refine Guard_ndec (fun h => ?_) (fun h => ?_) | with_reducible refine Guard_not (fun h => ?_) (fun h => ?_) | with_reducible refine IfB_ndec (fun h => ?_) (fun h => ?_) | with_reducible refine IfB_not (fun h => ?_) (fun h => ?_) | with_reducible refine Guard_split (fun h => ?_) (fun h => ?_) | with_reducible refine IfB_split (fun h => ?_) (fun h => ?_))
    exact hK _ _ (Thaw.agg_row ⟨.int _ _, .int _ _, .str _, .str _, .int _ _, .int _ _, .int _ _, .str _, .int _ _, .int _ _, .bool _, trivial⟩) (Keep.app _ _ _)
  by_cases k5 : kind = 5
  · subst k5
    refine WC_of_body hT Try.func64 rfl (by simp [Try.f64]) (by simp [Try.f64]) (wx_sound hT _ ?_)
    simp only [Try.f64]
    repeat' (first | simp only [go_sem, Nat.reduceLT, Nat.reduceEqDiff, Nat.reduceAdd, Nat.reduceMul, Nat.reduceSub, Nat.reduceLeDiff, Int.reduceToNat, Int.reduceNeg, Int.reduceLT, Int.reduceLE, Int.reduceEq, reduceCtorEq, Int.natCast_zero, Int.natCast_one, Int.cast_ofNat_Int, Bool.not_not, false_eq_decide, true_eq_decide, hread0, hreadk, read_cons0, read_consk, astore_h0, astore_hk, hget0, hgetk, hset0, hsetk, hlen, hcat, Nat.add_assoc, Nat.add_zero, Nat.zero_add, List.length_append, and_true, true_and, AV.flat, *, -hK] | with_reducible refine IfB_dec (fun h => ?_) (fun h => ?_) | with_reducible refine Guard_dec (fun h => ?_) (fun h => ?_) | with_reducible refine Guard_ndec (fun h => ?_) (fun h => ?_) | with_reducible refine Guard_not (fun h => ?_) (fun h => ?_) | with_reducible refine IfB_ndec (fun h => ?_) (fun h => ?_) | with_reducible refine IfB_not (fun h => ?_) (fun h => ?_) | with_reducible refine Guard_split (fun h => ?_) (fun h => ?_) | with_reducible refine IfB_split (fun h => ?_) (fun h => ?_))
    exact hK _ _ (Thaw.agg_row ⟨.int _ _, .int _ _, .str _, .str _, .int _ _, .int _ _, .int _ _, .str _, .int _ _, .int _ _, .bool _, trivial⟩) (Keep.app _ _ _)
  by_cases k6 : kind = 6
  · subst k6
    refine WC_of_body hT Try.func64 rfl (by simp [Try.f64]) (by simp [Try.f64]) (wx_sound hT _ ?_)
    simp only [Try.f64]
    repeat' (first | simp only [go_sem, Nat.reduceLT, Nat.reduceEqDiff, Nat.reduceAdd, Nat.reduceMul, Nat.reduceSub, Nat.reduceLeDiff, Int.reduceToNat, Int.reduceNeg, Int.reduceLT, Int.reduceLE, Int.reduceEq, reduceCtorEq, Int.natCast_zero, Int.natCast_one, Int.cast_ofNat_Int, Bool.not_not, false_eq_decide, true_eq_decide, hread0, hreadk, read_cons0, read_consk, astore_h0, astore_hk, hget0, hgetk, hset0, hsetk, hlen, hcat, Nat.add_assoc, Nat.add_zero, Nat.zero_add, List.length_append, and_true, true_and, AV.flat, *, -hK] | with_reducible refine IfB_dec (fun h => ?_) (fun h => ?_) | with_reducible refine Guard_dec (fun h => ?_) (fun h => ?_) | with_reducible refine Guard_ndec (fun h => ?_) (fun h => ?_) | with_reducible refine Guard_not (fun h => ?_) (fun h => ?_) | with_reducible refine IfB_ndec (fun h => ?_) (fun h => ?_) | with_reducible refine IfB_not (fun h => ?_) (fun h => ?_) | with_reducible refine Guard_split (fun h => ?_) (fun h => ?_) | with_reducible refine IfB_split (fun h => ?_) (fun h => ?_))
    exact hK _ _ (Thaw.agg_row ⟨.int _ _, .int _ _, .str _, .str _, .int _ _, .int _ _, .int _ _, .str _, .int _ _, .int _ _, .bool _, trivial⟩) (Keep.app _ _ _)
  by_cases k7 : kind = 7
  · subst k7
    refine WC_of_body hT Try.func64 rfl (by simp [Try.f64]) (by simp [Try.f64]) (wx_sound hT _ ?_)
    simp only [Try.f64]
    repeat' (first | simp only [go_sem, Nat.reduceLT, Nat.reduceEqDiff, Nat.reduceAdd, Nat.reduceMul, Nat.reduceSub, Nat.reduceLeDiff, Int.reduceToNat, Int.reduceNeg, Int.reduceLT, Int.reduceLE, Int.reduceEq, reduceCtorEq, Int.natCast_zero, Int.natCast_one, Int.cast_ofNat_Int, Bool.not_not, false_eq_decide, true_eq_decide, hread0, hreadk, read_cons0, read_consk, astore_h0, astore_hk, hget0, hgetk, hset0, hsetk, hlen, hcat, Nat.add_assoc, Nat.add_zero, Nat.zero_add, List.length_append, and_true, true_and, AV.flat, *, -hK] | with_reducible refine IfB_dec (fun h => ?_) (fun h => ?_) | with_reducible refine Guard_dec (fun h => ?_) (fun h => ?_) | with_reducible refine Guard_ndec (fun h => ?_) (fun h => ?_) | with_reducible refine Guard_not (fun h => ?_) (fun h => ?_) | with_reducible refine IfB_ndec (fun h => ?_) (fun h => ?_) | with_reducible refine IfB_not (fun h => ?_) (fun h => ?_) | with_reducible refine Guard_split (fun h => ?_) (fun h => ?_) | with_reducible refine IfB_split (fun h => ?_) (fun h => ?_))
    exact hK _ _ (Thaw.agg_row ⟨.int _ _, .int _ _, .str _, .str _, .int _ _, .int _ _, .int _ _, .str _, .int _ _, .int _ _, .bool _, trivial⟩) (Keep.app _ _ _)
  rw [if_neg k1, if_neg k2, if_neg k3, if_neg k4, if_neg k5, if_neg k6, if_neg k7] at hK
  simp only [chg0] at hK
  refine WC_of_body hT Try.func64 rfl (by simp [Try.f64]) (by simp [Try.f64]) (wx_sound hT _ ?_)
  simp only [Try.f64]
  repeat' (first | simp only [go_sem, Nat.reduceLT, Nat.reduceEqDiff, Nat.reduceAdd, Nat.reduceMul, Nat.reduceSub, Nat.reduceLeDiff, Int.reduceToNat, Int.reduceNeg, Int.reduceLT, Int.reduceLE, Int.reduceEq, reduceCtorEq, Int.natCast_zero, Int.natCast_one, Int.cast_ofNat_Int, Bool.not_not, false_eq_decide, true_eq_decide, hread0, hreadk, read_cons0, read_consk, astore_h0, astore_hk, hget0, hgetk, hset0, hsetk, hlen, hcat, Nat.add_assoc, Nat.add_zero, Nat.zero_add, List.length_append, and_true, true_and, AV.flat, *, -hK] | with_reducible refine IfB_dec (fun h => ?_) (fun h => ?_) | with_reducible refine Guard_dec (fun h => ?_) (fun h => ?_) | with_reducible refine Guard_ndec (fun h => ?_) (fun h => ?_) | with_reducible refine Guard_not (fun h => ?_) (fun h => ?_) | with_reducible refine IfB_ndec (fun h => ?_) (fun h => ?_) | with_reducible refine IfB_not (fun h => ?_) (fun h => ?_) | with_reducible refine Guard_split (fun h => ?_) (fun h => ?_) | with_reducible refine IfB_split (fun h => ?_) (fun h => ?_))
  exact hK _ _ (Thaw.agg_row ⟨.int _ _, .int _ _, .str _, .str _, .int _ _, .int _ _, .int _ _, .str _, .int _ _, .int _ _, .bool _, trivial⟩) (Keep.app _ _ _)
theorem refItem_spec (a b : List UInt8) (f d u : Int) (H : Heap) : WC Try.prog 65 [.agg [.str a, .str b, .int .u32 f, .int .i64 d, .int .u64 u]] H fun r H' => r = .bool (decide ((1 ≤ a.length ∧ a.length ≤ 32) ∧ b.length ≤ 512 ∧ 0 ≤ d ∧ d ≤ 1099511627776)) ∧ H' = H := by
  refine WC_val fun K hK => ?_
  refine WC_of_body hT Try.func65 rfl (by simp [Try.f65]) (by simp [Try.f65]) (wx_sound hT _ ?_)
  simp only [Try.f65]
  repeat' (first | simp only [go_sem, Nat.reduceLT, Nat.reduceEqDiff, Nat.reduceAdd, Nat.reduceMul, Nat.reduceSub, Nat.reduceLeDiff, Int.reduceToNat, Int.reduceNeg, Int.reduceLT, Int.reduceLE, Int.reduceEq, reduceCtorEq, Int.natCast_zero, Int.natCast_one, Int.cast_ofNat_Int, Bool.not_not, false_eq_decide, true_eq_decide, hread0, hreadk, read_cons0, read_consk, astore_h0, astore_hk, hget0, hgetk, hset0, hsetk, hlen, hcat, Nat.add_assoc, Nat.add_zero, Nat.zero_add, List.length_append, and_true, true_and, AV.flat, *, -hK] | refine WC.call (refKey_spec _ _) ?_ | with_reducible refine IfB_dec (fun h => ?_) (fun h => ?_) | with_reducible refine Guard_dec (fun h => ?_) (fun h => ?_) | with_reducible refine Guard_ndec (fun h => ?_) (fun h => ?_) | with_reducible refine Guard_not (fun h => ?_) (fun h => ?_) | with_reducible refine IfB_ndec (fun h => ?_) (fun h => ?_) | with_reducible refine IfB_not (fun h => ?_) (fun h => ?_) | with_reducible refine Guard_split (fun h => ?_) (fun h => ?_) | with_reducible refine IfB_split (fun h => ?_) (fun h => ?_))
  all_goals
    refine hK _ _ (Thaw.of_eq ?_ rfl) (Keep.app _ _ _)
    clear hK
    congr 1
    simp only [keyB, decide_eq_true_eq, decide_eq_false_iff_not] at *
    try symm
    first
      | (rw [decide_eq_false_iff_not]; omega)
      | (rw [decide_eq_true_eq]; omega)
      | (rw [decide_eq_decide]; omega)
/-! ### lists of changes are the same -/
theorem sameChanges_spec (xs ys : List Chg) (hx : xs.length ≤ 140737488355328) (H : Heap) : WC Try.prog 34 [chgE.lst xs, chgE.lst ys] H fun r H' => r = .bool (decide (xs = ys)) ∧ H' = H := by
  refine WC_of_K fun K hK => ?_
  by_cases hl : xs.length = ys.length
  rotate_left
  · have hne : ¬ (xs.length : Int) = ys.length := by omega
    have hd : decide (xs = ys) = false := by rw [decide_eq_false_iff_not]; intro h; exact hl (by rw [h])
    rw [hd] at hK
    refine WC_of_body hT Try.func34 rfl (by simp [Try.f34]) (by simp [Try.f34]) (wx_sound hT _ ?_)
    simp only [Try.f34]
    repeat' (first | simp only [go_sem, Nat.reduceLT, Nat.reduceEqDiff, Nat.reduceAdd, Nat.reduceMul, Nat.reduceSub, Nat.reduceLeDiff, Int.reduceToNat, Int.reduceNeg, Int.reduceLT, Int.reduceLE, Int.reduceEq, reduceCtorEq, Int.natCast_zero, Int.natCast_one, Int.cast_ofNat_Int, Bool.not_not, false_eq_decide, true_eq_decide, hread0, hreadk, read_cons0, read_consk, astore_h0, astore_hk, hget0, hgetk, hset0, hsetk, hlen, hcat, Nat.add_assoc, Nat.add_zero, Nat.zero_add, List.length_append, and_true, true_and, AV.flat, *, -hK, -hl, -hd] | with_reducible refine IfB_dec (fun h => ?_) (fun h => ?_) | with_reducible refine Guard_dec (fun h => ?_) (fun h => ?_) | with_reducible refine Guard_ndec (fun h => ?_) (fun h => ?_) | with_reducible refine Guard_not (fun h => ?_) (fun h => ?_) | with_reducible refine IfB_ndec (fun h => ?_) (fun h => ?_) | with_reducible refine IfB_not (fun h => ?_) (fun h => ?_) | with_reducible refine Guard_split (fun h => ?_) (fun h => ?_) | with_reducible refine IfB_split (fun h => ?_) (fun h => ?_))
    exact hK _ _ ⟨rfl, rfl⟩
  have he : (xs.length : Int) = ys.length := by omega
  refine WC_of_body hT Try.func34 rfl (by simp [Try.f34]) (by simp [Try.f34]) (wx_sound hT _ ?_)
  simp only [Try.f34]
  repeat' (first | simp only [go_sem, Nat.reduceLT, Nat.reduceEqDiff, Nat.reduceAdd, Nat.reduceMul, Nat.reduceSub, Nat.reduceLeDiff, Int.reduceToNat, Int.reduceNeg, Int.reduceLT, Int.reduceLE, Int.reduceEq, reduceCtorEq, Int.natCast_zero, Int.natCast_one, Int.cast_ofNat_Int, Bool.not_not, false_eq_decide, true_eq_decide, hread0, hreadk, read_cons0, read_consk, astore_h0, astore_hk, hget0, hgetk, hset0, hsetk, hlen, hcat, Nat.add_assoc, Nat.add_zero, Nat.zero_add, List.length_append, and_true, true_and, AV.flat, *, -hK, -hl] | with_reducible refine IfB_dec (fun h => ?_) (fun h => ?_) | with_reducible refine Guard_dec (fun h => ?_) (fun h => ?_) | with_reducible refine Guard_ndec (fun h => ?_) (fun h => ?_) | with_reducible refine Guard_not (fun h => ?_) (fun h => ?_) | with_reducible refine IfB_ndec (fun h => ?_) (fun h => ?_) | with_reducible refine IfB_not (fun h => ?_) (fun h => ?_) | with_reducible refine Guard_split (fun h => ?_) (fun h => ?_) | with_reducible refine IfB_split (fun h => ?_) (fun h => ?_))
  refine WX_loopS [0, 1] (fun k fr' H' => ∃ i : Nat, k = xs.length - i ∧ i ≤ xs.length ∧ fr'.get 5 = .int .i64 i ∧ xs.take i = ys.take i ∧ H' = H) xs.length ⟨0, rfl, by omega, by simp only [go_sem, Nat.reduceLT, Nat.reduceEqDiff, Nat.reduceAdd, Nat.reduceMul, Nat.reduceSub, Nat.reduceLeDiff, Int.reduceToNat, Int.reduceNeg, Int.reduceLT, Int.reduceLE, Int.reduceEq, reduceCtorEq]; rfl, rfl, rfl⟩ ?_
  rintro k fr' H' A R hA hs hg hR ⟨i, rfl, hi, f5, ht, rfl⟩
  have s0 := hg 0 (by decide)
  have s1 := hg 1 (by decide)
  simp only [Fr.get_put, Fr.get_init, List.getD_cons_zero, List.getD_cons_succ, Nat.reduceEqDiff, if_true, if_false] at s0 s1
  clear he
  refine wx_sound hT _ ?_
  by_cases hlt : i < xs.length
  · have h1 : (i : Int) < xs.length := by omega
    have e1 := at_enc (E := chgE) (T := T) (k := .i64) se56 hlt rfl
    have e2 := at_enc (E := chgE) (T := T) (k := .i64) se56 (show i < ys.length by omega) rfl
    have e3 := inc_id hlt hx
    rw [chgE_cells] at e1 e2
    have hback : xs[i] = ys[i] → xs.take (i + 1) = ys.take (i + 1) := fun h => by rw [List.take_succ_eq_append_getElem hlt, List.take_succ_eq_append_getElem (show i < ys.length by omega), ht, h]
    have hne : xs[i] ≠ ys[i] → xs ≠ ys := fun h heq => by subst heq; exact h rfl
    generalize xs[i] = c at *
    generalize ys[i] = d at *
    obtain ⟨k1, t1, a1, b1, f1, d1, u1, y1, w1, o1, p1⟩ := c
    obtain ⟨k2, t2, a2, b2, f2, d2, u2, y2, w2, o2, p2⟩ := d
    simp only [Chg.mk.injEq] at hback hne e1 e2
    by_cases hcd : k1 = k2 ∧ t1 = t2 ∧ a1 = a2 ∧ b1 = b2 ∧ f1 = f2 ∧ d1 = d2 ∧ u1 = u2 ∧ y1 = y2 ∧ w1 = w2 ∧ o1 = o2 ∧ p1 = p2
    · have hb2 := hback hcd
      obtain ⟨rfl, rfl, rfl, rfl, rfl, rfl, rfl, rfl, rfl, rfl, rfl⟩ := hcd
      clear hback hne
      repeat' (first | simp only [go_sem, Nat.reduceLT, Nat.reduceEqDiff, Nat.reduceAdd, Nat.reduceMul, Nat.reduceSub, Nat.reduceLeDiff, Int.reduceToNat, Int.reduceNeg, Int.reduceLT, Int.reduceLE, Int.reduceEq, reduceCtorEq, Int.natCast_zero, Int.natCast_one, Int.cast_ofNat_Int, Bool.not_not, false_eq_decide, true_eq_decide, hread0, hreadk, read_cons0, read_consk, astore_h0, astore_hk, hget0, hgetk, hset0, hsetk, hlen, hcat, Nat.add_assoc, Nat.add_zero, Nat.zero_add, List.length_append, and_true, true_and, AV.flat, *, -hK, -hl, -ht, -hb2] | with_reducible refine IfB_dec (fun h => ?_) (fun h => ?_) | with_reducible refine Guard_dec (fun h => ?_) (fun h => ?_) | with_reducible refine Guard_ndec (fun h => ?_) (fun h => ?_) | with_reducible refine Guard_not (fun h => ?_) (fun h => ?_) | with_reducible refine IfB_ndec (fun h => ?_) (fun h => ?_) | with_reducible refine IfB_not (fun h => ?_) (fun h => ?_) | with_reducible refine Guard_split (fun h => ?_) (fun h => ?_) | with_reducible refine IfB_split (fun h => ?_) (fun h => ?_))
      refine WX_rows hT hmix [(0, none), (1, none), (2, none), (3, none), (4, none), (5, none), (6, none), (7, none), (8, none)] (by kernel_rfl) ?_
      repeat' (first | simp only [go_sem, Nat.reduceLT, Nat.reduceEqDiff, Nat.reduceAdd, Nat.reduceMul, Nat.reduceSub, Nat.reduceLeDiff, Int.reduceToNat, Int.reduceNeg, Int.reduceLT, Int.reduceLE, Int.reduceEq, reduceCtorEq, Int.natCast_zero, Int.natCast_one, Int.cast_ofNat_Int, Bool.not_not, false_eq_decide, true_eq_decide, hread0, hreadk, read_cons0, read_consk, astore_h0, astore_hk, hget0, hgetk, hset0, hsetk, hlen, hcat, Nat.add_assoc, Nat.add_zero, Nat.zero_add, List.length_append, and_true, true_and, AV.flat, *, -hK, -hl, -ht, -hb2] | with_reducible refine IfB_dec (fun h => ?_) (fun h => ?_) | with_reducible refine Guard_dec (fun h => ?_) (fun h => ?_) | with_reducible refine Guard_ndec (fun h => ?_) (fun h => ?_) | with_reducible refine Guard_not (fun h => ?_) (fun h => ?_) | with_reducible refine IfB_ndec (fun h => ?_) (fun h => ?_) | with_reducible refine IfB_not (fun h => ?_) (fun h => ?_) | with_reducible refine Guard_split (fun h => ?_) (fun h => ?_) | with_reducible refine IfB_split (fun h => ?_) (fun h => ?_))
      exact hR _ _ (by (repeat (first | exact hs | refine hA _ _ _ (by decide) ?_))) (xs.length - (i + 1)) (by omega) ⟨i + 1, rfl, by omega, by simp only [go_sem, Nat.reduceLT, Nat.reduceEqDiff, Nat.reduceAdd, Nat.reduceMul, Nat.reduceSub, Nat.reduceLeDiff, Int.reduceToNat, Int.reduceNeg, Int.reduceLT, Int.reduceLE, Int.reduceEq, reduceCtorEq], hb2, rfl⟩
    · have hn2 := hne (by simp only [ne_eq, Chg.mk.injEq]; exact hcd)
      have hdd : (decide (k1 = k2) && (decide (t1 = t2) && ((decide (a1 = a2) && (decide (b1 = b2) && (decide (f1 = f2) && (decide (d1 = d2) && decide (u1 = u2))))) && (decide (y1 = y2) && (decide (w1 = w2) && (decide (o1 = o2) && decide (p1 = p2))))))) = false := by
        rw [Bool.eq_false_iff]; intro h; simp only [Bool.and_eq_true, decide_eq_true_eq] at h; exact hcd (by simpa only [and_assoc] using h)
      clear hback hne hcd
      repeat' (first | simp only [go_sem, Nat.reduceLT, Nat.reduceEqDiff, Nat.reduceAdd, Nat.reduceMul, Nat.reduceSub, Nat.reduceLeDiff, Int.reduceToNat, Int.reduceNeg, Int.reduceLT, Int.reduceLE, Int.reduceEq, reduceCtorEq, Int.natCast_zero, Int.natCast_one, Int.cast_ofNat_Int, Bool.not_not, false_eq_decide, true_eq_decide, hread0, hreadk, read_cons0, read_consk, astore_h0, astore_hk, hget0, hgetk, hset0, hsetk, hlen, hcat, Nat.add_assoc, Nat.add_zero, Nat.zero_add, List.length_append, and_true, true_and, AV.flat, *, -hK, -hl, -ht, -hdd, -hn2] | with_reducible refine IfB_dec (fun h => ?_) (fun h => ?_) | with_reducible refine Guard_dec (fun h => ?_) (fun h => ?_) | with_reducible refine Guard_ndec (fun h => ?_) (fun h => ?_) | with_reducible refine Guard_not (fun h => ?_) (fun h => ?_) | with_reducible refine IfB_ndec (fun h => ?_) (fun h => ?_) | with_reducible refine IfB_not (fun h => ?_) (fun h => ?_) | with_reducible refine Guard_split (fun h => ?_) (fun h => ?_) | with_reducible refine IfB_split (fun h => ?_) (fun h => ?_))
      refine WX_rows hT hmix [(0, none), (1, none), (2, none), (3, none), (4, none), (5, none), (6, none), (7, none), (8, none)] (by kernel_rfl) ?_
      repeat' (first | simp only [go_sem, Nat.reduceLT, Nat.reduceEqDiff, Nat.reduceAdd, Nat.reduceMul, Nat.reduceSub, Nat.reduceLeDiff, Int.reduceToNat, Int.reduceNeg, Int.reduceLT, Int.reduceLE, Int.reduceEq, reduceCtorEq, Int.natCast_zero, Int.natCast_one, Int.cast_ofNat_Int, Bool.not_not, false_eq_decide, true_eq_decide, hread0, hreadk, read_cons0, read_consk, astore_h0, astore_hk, hget0, hgetk, hset0, hsetk, hlen, hcat, Nat.add_assoc, Nat.add_zero, Nat.zero_add, List.length_append, and_true, true_and, AV.flat, *, -hK, -hl, -ht, -hn2] | with_reducible refine IfB_dec (fun h => ?_) (fun h => ?_) | with_reducible refine Guard_dec (fun h => ?_) (fun h => ?_) | with_reducible refine Guard_ndec (fun h => ?_) (fun h => ?_) | with_reducible refine Guard_not (fun h => ?_) (fun h => ?_) | with_reducible refine IfB_ndec (fun h => ?_) (fun h => ?_) | with_reducible refine IfB_not (fun h => ?_) (fun h => ?_) | with_reducible refine Guard_split (fun h => ?_) (fun h => ?_) | with_reducible refine IfB_split (fun h => ?_) (fun h => ?_))
      trace_state
      refine hK _ _ ⟨?_, rfl⟩
      rw [decide_eq_false hn2]
  · have h1 : ¬ (i : Int) < xs.length := by omega
    repeat' (first | simp only [go_sem, Nat.reduceLT, Nat.reduceEqDiff, Nat.reduceAdd, Nat.reduceMul, Nat.reduceSub, Nat.reduceLeDiff, Int.reduceToNat, Int.reduceNeg, Int.reduceLT, Int.reduceLE, Int.reduceEq, reduceCtorEq, Int.natCast_zero, Int.natCast_one, Int.cast_ofNat_Int, Bool.not_not, false_eq_decide, true_eq_decide, hread0, hreadk, read_cons0, read_consk, astore_h0, astore_hk, hget0, hgetk, hset0, hsetk, hlen, hcat, Nat.add_assoc, Nat.add_zero, Nat.zero_add, List.length_append, and_true, true_and, AV.flat, *, -hK, -hl, -ht] | with_reducible refine IfB_dec (fun h => ?_) (fun h => ?_) | with_reducible refine Guard_dec (fun h => ?_) (fun h => ?_) | with_reducible refine Guard_ndec (fun h => ?_) (fun h => ?_) | with_reducible refine Guard_not (fun h => ?_) (fun h => ?_) | with_reducible refine IfB_ndec (fun h => ?_) (fun h => ?_) | with_reducible refine IfB_not (fun h => ?_) (fun h => ?_) | with_reducible refine Guard_split (fun h => ?_) (fun h => ?_) | with_reducible refine IfB_split (fun h => ?_) (fun h => ?_))
    refine hK _ _ ⟨?_, rfl⟩
    congr 1; symm; rw [decide_eq_true_eq]
    rw [List.take_of_length_le (by omega), List.take_of_length_le (by omega)] at ht
    exact ht
open Go Go.Proofs Go.Proofs.PI
/-! ### the document: may a change be, as a whole -/
theorem refMay_spec (c : Chg) (H : Heap) : WC Try.prog 58 [c.av] H fun r H' => r = .bool c.mayB ∧ H' = H := by
  refine WC_val fun K hK => ?_
  have bs := fun J => bare_spec c J
  have ts := fun J => refTenant_spec c.ten J
  by_cases he : c.bare = c
  rotate_left
  · have hm : c.mayB = false := by unfold Chg.mayB; rw [decide_eq_false_iff_not]; exact fun h => he h.2.2
    rw [hm] at hK
    clear hm ts
    generalize c.bare = d at *
    obtain ⟨k1, t1, a1, b1, f1, d1, u1, y1, w1, o1, p1⟩ := d
    obtain ⟨k2, t2, a2, b2, f2, d2, u2, y2, w2, o2, p2⟩ := c
    simp only [Chg.mk.injEq] at he
    have hdd : (decide (k1 = k2) && (decide (t1 = t2) && ((decide (a1 = a2) && (decide (b1 = b2) && (decide (f1 = f2) && (decide (d1 = d2) && decide (u1 = u2))))) && (decide (y1 = y2) && (decide (w1 = w2) && (decide (o1 = o2) && decide (p1 = p2))))))) = false := by
      rw [Bool.eq_false_iff]; intro h; simp only [Bool.and_eq_true, decide_eq_true_eq] at h; exact he (by simpa only [and_assoc] using h)
    clear he
    unfold Chg.av at *
    simp only at *
    refine WC_of_body hT Try.func58 rfl (by simp [Try.f58]) (by simp [Try.f58]) (wx_sound hT _ ?_)
    simp only [Try.f58]
    repeat' (first | simp only [go_sem, Nat.reduceLT, Nat.reduceEqDiff, Nat.reduceAdd, Nat.reduceMul, Nat.reduceSub, Nat.reduceLeDiff, Int.reduceToNat, Int.reduceNeg, Int.reduceLT, Int.reduceLE, Int.reduceEq, reduceCtorEq, Int.natCast_zero, Int.natCast_one, Int.cast_ofNat_Int, Bool.not_not, false_eq_decide, true_eq_decide, hread0, hreadk, read_cons0, read_consk, astore_h0, astore_hk, hget0, hgetk, hset0, hsetk, hlen, hcat, Nat.add_assoc, Nat.add_zero, Nat.zero_add, List.length_append, and_true, true_and, AV.flat, *, -hK, -bs, -hdd] | with_reducible refine IfB_dec (fun h => ?_) (fun h => ?_) | with_reducible refine Guard_dec (fun h => ?_) (fun h => ?_) | with_reducible refine Guard_ndec (fun h => ?_) (fun h => ?_) | with_reducible refine Guard_not (fun h => ?_) (fun h => ?_) | with_reducible refine IfB_ndec (fun h => ?_) (fun h => ?_) | with_reducible refine IfB_not (fun h => ?_) (fun h => ?_) | with_reducible refine Guard_split (fun h => ?_) (fun h => ?_) | with_reducible refine IfB_split (fun h => ?_) (fun h => ?_))
    refine WX_rows hT hmix [(0, none), (2, none), (1, some [false, true]), (3, none), (4, none), (5, none), (6, none), (7, some [true, true, true, true, true, true, true]), (8, none), (9, none)] (by kernel_rfl) ?_
    repeat' (first | simp only [go_sem, Nat.reduceLT, Nat.reduceEqDiff, Nat.reduceAdd, Nat.reduceMul, Nat.reduceSub, Nat.reduceLeDiff, Int.reduceToNat, Int.reduceNeg, Int.reduceLT, Int.reduceLE, Int.reduceEq, reduceCtorEq, Int.natCast_zero, Int.natCast_one, Int.cast_ofNat_Int, Bool.not_not, false_eq_decide, true_eq_decide, hread0, hreadk, read_cons0, read_consk, astore_h0, astore_hk, hget0, hgetk, hset0, hsetk, hlen, hcat, Nat.add_assoc, Nat.add_zero, Nat.zero_add, List.length_append, and_true, true_and, AV.flat, *, -hK, -bs] | refine WC.call (bs _) ?_ | with_reducible refine IfB_dec (fun h => ?_) (fun h => ?_) | with_reducible refine Guard_dec (fun h => ?_) (fun h => ?_) | with_reducible refine Guard_ndec (fun h => ?_) (fun h => ?_) | with_reducible refine Guard_not (fun h => ?_) (fun h => ?_) | with_reducible refine IfB_ndec (fun h => ?_) (fun h => ?_) | with_reducible refine IfB_not (fun h => ?_) (fun h => ?_) | with_reducible refine Guard_split (fun h => ?_) (fun h => ?_) | with_reducible refine IfB_split (fun h => ?_) (fun h => ?_))
    all_goals exact hK _ _ (.bool _) (Keep.app _ _ _)
  rw [he] at bs
  have hm : c.mayB = true ↔ (c.goodP ∧ 0 ≤ c.ten ∧ c.ten < 4) := by simp only [Chg.mayB, decide_eq_true_eq]; exact ⟨fun h => ⟨h.1, h.2.1⟩, fun h => ⟨h.1, h.2, he⟩⟩
  obtain ⟨kind, ten, ikey, ival, ifl, idue, iuniq, key, why, to, prim⟩ := c
  clear he
  unfold Chg.av at *
  unfold Chg.goodP at hm
  simp only at *
  by_cases hten : 0 ≤ ten ∧ ten < 4
  rotate_left
  · rw [Bool.eq_false_iff.2 (fun h => hten (hm.1 h).2)] at hK
    rw [decide_eq_false hten] at ts
    clear hm hten
    refine WC_of_body hT Try.func58 rfl (by simp [Try.f58]) (by simp [Try.f58]) (wx_sound hT _ ?_)
    simp only [Try.f58]
    repeat' (first | simp only [go_sem, Nat.reduceLT, Nat.reduceEqDiff, Nat.reduceAdd, Nat.reduceMul, Nat.reduceSub, Nat.reduceLeDiff, Int.reduceToNat, Int.reduceNeg, Int.reduceLT, Int.reduceLE, Int.reduceEq, reduceCtorEq, Int.natCast_zero, Int.natCast_one, Int.cast_ofNat_Int, Bool.not_not, false_eq_decide, true_eq_decide, hread0, hreadk, read_cons0, read_consk, astore_h0, astore_hk, hget0, hgetk, hset0, hsetk, hlen, hcat, Nat.add_assoc, Nat.add_zero, Nat.zero_add, List.length_append, and_true, true_and, AV.flat, *, -hK, -bs, -ts] | with_reducible refine IfB_dec (fun h => ?_) (fun h => ?_) | with_reducible refine Guard_dec (fun h => ?_) (fun h => ?_) | with_reducible refine Guard_ndec (fun h => ?_) (fun h => ?_) | with_reducible refine Guard_not (fun h => ?_) (fun h => ?_) | with_reducible refine IfB_ndec (fun h => ?_) (fun h => ?_) | with_reducible refine IfB_not (fun h => ?_) (fun h => ?_) | with_reducible refine Guard_split (fun h => ?_) (fun h => ?_) | with_reducible refine IfB_split (fun h => ?_) (fun h => ?_))
    refine WX_rows hT hmix [(0, none), (2, none), (1, some [false, true]), (3, none), (4, none), (5, none), (6, none), (7, some [true, true, true, true, true, true, true]), (8, none), (9, none)] (by kernel_rfl) ?_
    repeat' (first | simp only [go_sem, Nat.reduceLT, Nat.reduceEqDiff, Nat.reduceAdd, Nat.reduceMul, Nat.reduceSub, Nat.reduceLeDiff, Int.reduceToNat, Int.reduceNeg, Int.reduceLT, Int.reduceLE, Int.reduceEq, reduceCtorEq, Int.natCast_zero, Int.natCast_one, Int.cast_ofNat_Int, Bool.not_not, false_eq_decide, true_eq_decide, hread0, hreadk, read_cons0, read_consk, astore_h0, astore_hk, hget0, hgetk, hset0, hsetk, hlen, hcat, Nat.add_assoc, Nat.add_zero, Nat.zero_add, List.length_append, and_true, true_and, AV.flat, *, -hK, -bs, -ts] | refine WC.call (bs _) ?_ | refine WC.call (ts _) ?_ | with_reducible refine IfB_dec (fun h => ?_) (fun h => ?_) | with_reducible refine Guard_dec (fun h => ?_) (fun h => ?_) | with_reducible refine Guard_ndec (fun h => ?_) (fun h => ?_) | with_reducible refine Guard_not (fun h => ?_) (fun h => ?_) | with_reducible refine IfB_ndec (fun h => ?_) (fun h => ?_) | with_reducible refine IfB_not (fun h => ?_) (fun h => ?_) | with_reducible refine Guard_split (fun h => ?_) (fun h => ?_) | with_reducible refine IfB_split (fun h => ?_) (fun h => ?_))
    all_goals exact hK _ _ (.bool _) (Keep.app _ _ _)
  rw [decide_eq_true hten] at ts
  by_cases k1 : kind = 1
  · subst k1
    simp only [Int.reduceEq, if_true, if_false] at hm
    refine WC_of_body hT Try.func58 rfl (by simp [Try.f58]) (by simp [Try.f58]) (wx_sound hT _ ?_)
    simp only [Try.f58]
    repeat' (first | simp only [go_sem, Nat.reduceLT, Nat.reduceEqDiff, Nat.reduceAdd, Nat.reduceMul, Nat.reduceSub, Nat.reduceLeDiff, Int.reduceToNat, Int.reduceNeg, Int.reduceLT, Int.reduceLE, Int.reduceEq, reduceCtorEq, Int.natCast_zero, Int.natCast_one, Int.cast_ofNat_Int, Bool.not_not, false_eq_decide, true_eq_decide, hread0, hreadk, read_cons0, read_consk, astore_h0, astore_hk, hget0, hgetk, hset0, hsetk, hlen, hcat, Nat.add_assoc, Nat.add_zero, Nat.zero_add, List.length_append, and_true, true_and, AV.flat, *, -hK, -hm] | with_reducible refine IfB_dec (fun h => ?_) (fun h => ?_) | with_reducible refine Guard_dec (fun h => ?_) (fun h => ?_) | with_reducible refine Guard_ndec (fun h => ?_) (fun h => ?_) | with_reducible refine Guard_not (fun h => ?_) (fun h => ?_) | with_reducible refine IfB_ndec (fun h => ?_) (fun h => ?_) | with_reducible refine IfB_not (fun h => ?_) (fun h => ?_) | with_reducible refine Guard_split (fun h => ?_) (fun h => ?_) | with_reducible refine IfB_split (fun h => ?_) (fun h => ?_))
    refine WX_rows hT hmix [(0, none), (2, none), (1, some [false, true]), (3, none), (4, none), (5, none), (6, none), (7, some [true, true, true, true, true, true, true]), (8, none), (9, none)] (by kernel_rfl) ?_
    repeat' (first | simp only [go_sem, Nat.reduceLT, Nat.reduceEqDiff, Nat.reduceAdd, Nat.reduceMul, Nat.reduceSub, Nat.reduceLeDiff, Int.reduceToNat, Int.reduceNeg, Int.reduceLT, Int.reduceLE, Int.reduceEq, reduceCtorEq, Int.natCast_zero, Int.natCast_one, Int.cast_ofNat_Int, Bool.not_not, false_eq_decide, true_eq_decide, hread0, hreadk, read_cons0, read_consk, astore_h0, astore_hk, hget0, hgetk, hset0, hsetk, hlen, hcat, Nat.add_assoc, Nat.add_zero, Nat.zero_add, List.length_append, and_true, true_and, AV.flat, *, -hK, -bs, -ts, -hm] | refine WC.call (bs _) ?_ | refine WC.call (ts _) ?_ | refine WC.call (refItem_spec _ _ _ _ _ _) ?_ | refine WC.call (refKey_spec _ _) ?_ | with_reducible refine IfB_dec (fun h => ?_) (fun h => ?_) | with_reducible refine Guard_dec (fun h => ?_) (fun h => ?_) | with_reducible refine Guard_ndec (fun h => ?_) (fun h => ?_) | with_reducible refine Guard_not (fun h => ?_) (fun h => ?_) | with_reducible refine IfB_ndec (fun h => ?_) (fun h => ?_) | with_reducible refine IfB_not (fun h => ?_) (fun h => ?_) | with_reducible refine Guard_split (fun h => ?_) (fun h => ?_) | with_reducible refine IfB_split (fun h => ?_) (fun h => ?_))
    all_goals
      refine hK _ _ (Thaw.of_eq ?_ rfl) (Keep.app _ _ _)
      clear hK
      congr 1
      rw [Bool.eq_iff_iff, hm]
      clear hm bs ts
      simp only [keyB, decide_eq_true_eq, decide_eq_false_iff_not, Bool.false_eq_true, false_iff, true_iff, true_and] at *
      omega
  by_cases k2 : kind = 2
  · subst k2
    simp only [Int.reduceEq, if_true, if_false] at hm
    refine WC_of_body hT Try.func58 rfl (by simp [Try.f58]) (by simp [Try.f58]) (wx_sound hT _ ?_)
    simp only [Try.f58]
    repeat' (first | simp only [go_sem, Nat.reduceLT, Nat.reduceEqDiff, Nat.reduceAdd, Nat.reduceMul, Nat.reduceSub, Nat.reduceLeDiff, Int.reduceToNat, Int.reduceNeg, Int.reduceLT, Int.reduceLE, Int.reduceEq, reduceCtorEq, Int.natCast_zero, Int.natCast_one, Int.cast_ofNat_Int, Bool.not_not, false_eq_decide, true_eq_decide, hread0, hreadk, read_cons0, read_consk, astore_h0, astore_hk, hget0, hgetk, hset0, hsetk, hlen, hcat, Nat.add_assoc, Nat.add_zero, Nat.zero_add, List.length_append, and_true, true_and, AV.flat, *, -hK, -hm] | with_reducible refine IfB_dec (fun h => ?_) (fun h => ?_) | with_reducible refine Guard_dec (fun h => ?_) (fun h => ?_) | with_reducible refine Guard_ndec (fun h => ?_) (fun h => ?_) | with_reducible refine Guard_not (fun h => ?_) (fun h => ?_) | with_reducible refine IfB_ndec (fun h => ?_) (fun h => ?_) | with_reducible refine IfB_not (fun h => ?_) (fun h => ?_) | with_reducible refine Guard_split (fun h => ?_) (fun h => ?_) | with_reducible refine IfB_split (fun h => ?_) (fun h => ?_))
    refine WX_rows hT hmix [(0, none), (2, none), (1, some [false, true]), (3, none), (4, none), (5, none), (6, none), (7, some [true, true, true, true, true, true, true]), (8, none), (9, none)] (by kernel_rfl) ?_
    repeat' (first | simp only [go_sem, Nat.reduceLT, Nat.reduceEqDiff, Nat.reduceAdd, Nat.reduceMul, Nat.reduceSub, Nat.reduceLeDiff, Int.reduceToNat, Int.reduceNeg, Int.reduceLT, Int.reduceLE, Int.reduceEq, reduceCtorEq, Int.natCast_zero, Int.natCast_one, Int.cast_ofNat_Int, Bool.not_not, false_eq_decide, true_eq_decide, hread0, hreadk, read_cons0, read_consk, astore_h0, astore_hk, hget0, hgetk, hset0, hsetk, hlen, hcat, Nat.add_assoc, Nat.add_zero, Nat.zero_add, List.length_append, and_true, true_and, AV.flat, *, -hK, -bs, -ts, -hm] | refine WC.call (bs _) ?_ | refine WC.call (ts _) ?_ | refine WC.call (refItem_spec _ _ _ _ _ _) ?_ | refine WC.call (refKey_spec _ _) ?_ | with_reducible refine IfB_dec (fun h => ?_) (fun h => ?_) | with_reducible refine Guard_dec (fun h => ?_) (fun h => ?_) | with_reducible refine Guard_ndec (fun h => ?_) (fun h => ?_) | with_reducible refine Guard_not (fun h => ?_) (fun h => ?_) | with_reducible refine IfB_ndec (fun h => ?_) (fun h => ?_) | with_reducible refine IfB_not (fun h => ?_) (fun h => ?_) | with_reducible refine Guard_split (fun h => ?_) (fun h => ?_) | with_reducible refine IfB_split (fun h => ?_) (fun h => ?_))
    all_goals
      refine hK _ _ (Thaw.of_eq ?_ rfl) (Keep.app _ _ _)
      clear hK
      congr 1
      rw [Bool.eq_iff_iff, hm]
      clear hm bs ts
      simp only [keyB, decide_eq_true_eq, decide_eq_false_iff_not, Bool.false_eq_true, false_iff, true_iff, true_and] at *
      omega
  by_cases k3 : kind = 3
  · subst k3
    simp only [Int.reduceEq, if_true, if_false] at hm
    refine WC_of_body hT Try.func58 rfl (by simp [Try.f58]) (by simp [Try.f58]) (wx_sound hT _ ?_)
    simp only [Try.f58]
    repeat' (first | simp only [go_sem, Nat.reduceLT, Nat.reduceEqDiff, Nat.reduceAdd, Nat.reduceMul, Nat.reduceSub, Nat.reduceLeDiff, Int.reduceToNat, Int.reduceNeg, Int.reduceLT, Int.reduceLE, Int.reduceEq, reduceCtorEq, Int.natCast_zero, Int.natCast_one, Int.cast_ofNat_Int, Bool.not_not, false_eq_decide, true_eq_decide, hread0, hreadk, read_cons0, read_consk, astore_h0, astore_hk, hget0, hgetk, hset0, hsetk, hlen, hcat, Nat.add_assoc, Nat.add_zero, Nat.zero_add, List.length_append, and_true, true_and, AV.flat, *, -hK, -hm] | with_reducible refine IfB_dec (fun h => ?_) (fun h => ?_) | with_reducible refine Guard_dec (fun h => ?_) (fun h => ?_) | with_reducible refine Guard_ndec (fun h => ?_) (fun h => ?_) | with_reducible refine Guard_not (fun h => ?_) (fun h => ?_) | with_reducible refine IfB_ndec (fun h => ?_) (fun h => ?_) | with_reducible refine IfB_not (fun h => ?_) (fun h => ?_) | with_reducible refine Guard_split (fun h => ?_) (fun h => ?_) | with_reducible refine IfB_split (fun h => ?_) (fun h => ?_))
    refine WX_rows hT hmix [(0, none), (2, none), (1, some [false, true]), (3, none), (4, none), (5, none), (6, none), (7, some [true, true, true, true, true, true, true]), (8, none), (9, none)] (by kernel_rfl) ?_
    repeat' (first | simp only [go_sem, Nat.reduceLT, Nat.reduceEqDiff, Nat.reduceAdd, Nat.reduceMul, Nat.reduceSub, Nat.reduceLeDiff, Int.reduceToNat, Int.reduceNeg, Int.reduceLT, Int.reduceLE, Int.reduceEq, reduceCtorEq, Int.natCast_zero, Int.natCast_one, Int.cast_ofNat_Int, Bool.not_not, false_eq_decide, true_eq_decide, hread0, hreadk, read_cons0, read_consk, astore_h0, astore_hk, hget0, hgetk, hset0, hsetk, hlen, hcat, Nat.add_assoc, Nat.add_zero, Nat.zero_add, List.length_append, and_true, true_and, AV.flat, *, -hK, -bs, -ts, -hm] | refine WC.call (bs _) ?_ | refine WC.call (ts _) ?_ | refine WC.call (refItem_spec _ _ _ _ _ _) ?_ | refine WC.call (refKey_spec _ _) ?_ | with_reducible refine IfB_dec (fun h => ?_) (fun h => ?_) | with_reducible refine Guard_dec (fun h => ?_) (fun h => ?_) | with_reducible refine Guard_ndec (fun h => ?_) (fun h => ?_) | with_reducible refine Guard_not (fun h => ?_) (fun h => ?_) | with_reducible refine IfB_ndec (fun h => ?_) (fun h => ?_) | with_reducible refine IfB_not (fun h => ?_) (fun h => ?_) | with_reducible refine Guard_split (fun h => ?_) (fun h => ?_) | with_reducible refine IfB_split (fun h => ?_) (fun h => ?_))
    all_goals
      refine hK _ _ (Thaw.of_eq ?_ rfl) (Keep.app _ _ _)
      clear hK
      congr 1
      rw [Bool.eq_iff_iff, hm]
      clear hm bs ts
      simp only [keyB, decide_eq_true_eq, decide_eq_false_iff_not, Bool.false_eq_true, false_iff, true_iff, true_and] at *
      omega
  by_cases k4 : kind = 4
  · subst k4
    simp only [Int.reduceEq, if_true, if_false] at hm
    refine WC_of_body hT Try.func58 rfl (by simp [Try.f58]) (by simp [Try.f58]) (wx_sound hT _ ?_)
    simp only [Try.f58]
    repeat' (first | simp only [go_sem, Nat.reduceLT, Nat.reduceEqDiff, Nat.reduceAdd, Nat.reduceMul, Nat.reduceSub, Nat.reduceLeDiff, Int.reduceToNat, Int.reduceNeg, Int.reduceLT, Int.reduceLE, Int.reduceEq, reduceCtorEq, Int.natCast_zero, Int.natCast_one, Int.cast_ofNat_Int, Bool.not_not, false_eq_decide, true_eq_decide, hread0, hreadk, read_cons0, read_consk, astore_h0, astore_hk, hget0, hgetk, hset0, hsetk, hlen, hcat, Nat.add_assoc, Nat.add_zero, Nat.zero_add, List.length_append, and_true, true_and, AV.flat, *, -hK, -hm] | with_reducible refine IfB_dec (fun h => ?_) (fun h => ?_) | with_reducible refine Guard_dec (fun h => ?_) (fun h => ?_) | with_reducible refine Guard_ndec (fun h => ?_) (fun h => ?_) | with_reducible refine Guard_not (fun h => ?_) (fun h => ?_) | with_reducible refine IfB_ndec (fun h => ?_) (fun h => ?_) | with_reducible refine IfB_not (fun h => ?_) (fun h => ?_) | with_reducible refine Guard_split (fun h => ?_) (fun h => ?_) | with_reducible refine IfB_split (fun h => ?_) (fun h => ?_))
    refine WX_rows hT hmix [(0, none), (2, none), (1, some [false, true]), (3, none), (4, none), (5, none), (6, none), (7, some [true, true, true, true, true, true, true]), (8, none), (9, none)] (by kernel_rfl) ?_
    repeat' (first | simp only [go_sem, Nat.reduceLT, Nat.reduceEqDiff, Nat.reduceAdd, Nat.reduceMul, Nat.reduceSub, Nat.reduceLeDiff, Int.reduceToNat, Int.reduceNeg, Int.reduceLT, Int.reduceLE, Int.reduceEq, reduceCtorEq, Int.natCast_zero, Int.natCast_one, Int.cast_ofNat_Int, Bool.not_not, false_eq_decide, true_eq_decide, hread0, hreadk, read_cons0, read_consk, astore_h0, astore_hk, hget0, hgetk, hset0, hsetk, hlen, hcat, Nat.add_assoc, Nat.add_zero, Nat.zero_add, List.length_append, and_true, true_and, AV.flat, *, -hK, -bs, -ts, -hm] | refine WC.call (bs _) ?_ | refine WC.call (ts _) ?_ | refine WC.call (refItem_spec _ _ _ _ _ _) ?_ | refine WC.call (refKey_spec _ _) ?_ | with_reducible refine IfB_dec (fun h => ?_) (fun h => ?_) | with_reducible refine Guard_dec (fun h => ?_) (fun h => ?_) | with_reducible refine Guard_ndec (fun h => ?_) (fun h => ?_) | with_reducible refine Guard_not (fun h => ?_) (fun h => ?_) | with_reducible refine IfB_ndec (fun h => ?_) (fun h => ?_) | with_reducible refine IfB_not (fun h => ?_) (fun h => ?_) | with_reducible refine Guard_split (fun h => ?_) (fun h => ?_) | with_reducible refine IfB_split (fun h => ?_) (fun h => ?_))
    all_goals
      refine hK _ _ (Thaw.of_eq ?_ rfl) (Keep.app _ _ _)
      clear hK
      congr 1
      rw [Bool.eq_iff_iff, hm]
      clear hm bs ts
      simp only [keyB, decide_eq_true_eq, decide_eq_false_iff_not, Bool.false_eq_true, false_iff, true_iff, true_and] at *
      omega
  by_cases k5 : kind = 5
  · subst k5
    simp only [Int.reduceEq, if_true, if_false] at hm
    refine WC_of_body hT Try.func58 rfl (by simp [Try.f58]) (by simp [Try.f58]) (wx_sound hT _ ?_)
    simp only [Try.f58]
    repeat' (first | simp only [go_sem, Nat.reduceLT, Nat.reduceEqDiff, Nat.reduceAdd, Nat.reduceMul, Nat.reduceSub, Nat.reduceLeDiff, Int.reduceToNat, Int.reduceNeg, Int.reduceLT, Int.reduceLE, Int.reduceEq, reduceCtorEq, Int.natCast_zero, Int.natCast_one, Int.cast_ofNat_Int, Bool.not_not, false_eq_decide, true_eq_decide, hread0, hreadk, read_cons0, read_consk, astore_h0, astore_hk, hget0, hgetk, hset0, hsetk, hlen, hcat, Nat.add_assoc, Nat.add_zero, Nat.zero_add, List.length_append, and_true, true_and, AV.flat, *, -hK, -hm] | with_reducible refine IfB_dec (fun h => ?_) (fun h => ?_) | with_reducible refine Guard_dec (fun h => ?_) (fun h => ?_) | with_reducible refine Guard_ndec (fun h => ?_) (fun h => ?_) | with_reducible refine Guard_not (fun h => ?_) (fun h => ?_) | with_reducible refine IfB_ndec (fun h => ?_) (fun h => ?_) | with_reducible refine IfB_not (fun h => ?_) (fun h => ?_) | with_reducible refine Guard_split (fun h => ?_) (fun h => ?_) | with_reducible refine IfB_split (fun h => ?_) (fun h => ?_))
    refine WX_rows hT hmix [(0, none), (2, none), (1, some [false, true]), (3, none), (4, none), (5, none), (6, none), (7, some [true, true, true, true, true, true, true]), (8, none), (9, none)] (by kernel_rfl) ?_
    repeat' (first | simp only [go_sem, Nat.reduceLT, Nat.reduceEqDiff, Nat.reduceAdd, Nat.reduceMul, Nat.reduceSub, Nat.reduceLeDiff, Int.reduceToNat, Int.reduceNeg, Int.reduceLT, Int.reduceLE, Int.reduceEq, reduceCtorEq, Int.natCast_zero, Int.natCast_one, Int.cast_ofNat_Int, Bool.not_not, false_eq_decide, true_eq_decide, hread0, hreadk, read_cons0, read_consk, astore_h0, astore_hk, hget0, hgetk, hset0, hsetk, hlen, hcat, Nat.add_assoc, Nat.add_zero, Nat.zero_add, List.length_append, and_true, true_and, AV.flat, *, -hK, -bs, -ts, -hm] | refine WC.call (bs _) ?_ | refine WC.call (ts _) ?_ | refine WC.call (refItem_spec _ _ _ _ _ _) ?_ | refine WC.call (refKey_spec _ _) ?_ | with_reducible refine IfB_dec (fun h => ?_) (fun h => ?_) | with_reducible refine Guard_dec (fun h => ?_) (fun h => ?_) | with_reducible refine Guard_ndec (fun h => ?_) (fun h => ?_) | with_reducible refine Guard_not (fun h => ?_) (fun h => ?_) | with_reducible refine IfB_ndec (fun h => ?_) (fun h => ?_) | with_reducible refine IfB_not (fun h => ?_) (fun h => ?_) | with_reducible refine Guard_split (fun h => ?_) (fun h => ?_) | with_reducible refine IfB_split (fun h => ?_) (fun h => ?_))
    all_goals
      refine hK _ _ (Thaw.of_eq ?_ rfl) (Keep.app _ _ _)
      clear hK
      congr 1
      rw [Bool.eq_iff_iff, hm]
      clear hm bs ts
      simp only [keyB, decide_eq_true_eq, decide_eq_false_iff_not, Bool.false_eq_true, false_iff, true_iff, true_and] at *
      omega
  by_cases k6 : kind = 6
  · subst k6
    simp only [Int.reduceEq, if_true, if_false] at hm
    refine WC_of_body hT Try.func58 rfl (by simp [Try.f58]) (by simp [Try.f58]) (wx_sound hT _ ?_)
    simp only [Try.f58]
    repeat' (first | simp only [go_sem, Nat.reduceLT, Nat.reduceEqDiff, Nat.reduceAdd, Nat.reduceMul, Nat.reduceSub, Nat.reduceLeDiff, Int.reduceToNat, Int.reduceNeg, Int.reduceLT, Int.reduceLE, Int.reduceEq, reduceCtorEq, Int.natCast_zero, Int.natCast_one, Int.cast_ofNat_Int, Bool.not_not, false_eq_decide, true_eq_decide, hread0, hreadk, read_cons0, read_consk, astore_h0, astore_hk, hget0, hgetk, hset0, hsetk, hlen, hcat, Nat.add_assoc, Nat.add_zero, Nat.zero_add, List.length_append, and_true, true_and, AV.flat, *, -hK, -hm] | with_reducible refine IfB_dec (fun h => ?_) (fun h => ?_) | with_reducible refine Guard_dec (fun h => ?_) (fun h => ?_) | with_reducible refine Guard_ndec (fun h => ?_) (fun h => ?_) | with_reducible refine Guard_not (fun h => ?_) (fun h => ?_) | with_reducible refine IfB_ndec (fun h => ?_) (fun h => ?_) | with_reducible refine IfB_not (fun h => ?_) (fun h => ?_) | with_reducible refine Guard_split (fun h => ?_) (fun h => ?_) | with_reducible refine IfB_split (fun h => ?_) (fun h => ?_))
    refine WX_rows hT hmix [(0, none), (2, none), (1, some [false, true]), (3, none), (4, none), (5, none), (6, none), (7, some [true, true, true, true, true, true, true]), (8, none), (9, none)] (by kernel_rfl) ?_
    repeat' (first | simp only [go_sem, Nat.reduceLT, Nat.reduceEqDiff, Nat.reduceAdd, Nat.reduceMul, Nat.reduceSub, Nat.reduceLeDiff, Int.reduceToNat, Int.reduceNeg, Int.reduceLT, Int.reduceLE, Int.reduceEq, reduceCtorEq, Int.natCast_zero, Int.natCast_one, Int.cast_ofNat_Int, Bool.not_not, false_eq_decide, true_eq_decide, hread0, hreadk, read_cons0, read_consk, astore_h0, astore_hk, hget0, hgetk, hset0, hsetk, hlen, hcat, Nat.add_assoc, Nat.add_zero, Nat.zero_add, List.length_append, and_true, true_and, AV.flat, *, -hK, -bs, -ts, -hm] | refine WC.call (bs _) ?_ | refine WC.call (ts _) ?_ | refine WC.call (refItem_spec _ _ _ _ _ _) ?_ | refine WC.call (refKey_spec _ _) ?_ | with_reducible refine IfB_dec (fun h => ?_) (fun h => ?_) | with_reducible refine Guard_dec (fun h => ?_) (fun h => ?_) | with_reducible refine Guard_ndec (fun h => ?_) (fun h => ?_) | with_reducible refine Guard_not (fun h => ?_) (fun h => ?_) | with_reducible refine IfB_ndec (fun h => ?_) (fun h => ?_) | with_reducible refine IfB_not (fun h => ?_) (fun h => ?_) | with_reducible refine Guard_split (fun h => ?_) (fun h => ?_) | with_reducible refine IfB_split (fun h => ?_) (fun h => ?_))
    all_goals
      refine hK _ _ (Thaw.of_eq ?_ rfl) (Keep.app _ _ _)
      clear hK
      congr 1
      rw [Bool.eq_iff_iff, hm]
      clear hm bs ts
      simp only [keyB, decide_eq_true_eq, decide_eq_false_iff_not, Bool.false_eq_true, false_iff, true_iff, true_and] at *
      omega
  by_cases k7 : kind = 7
  · subst k7
    simp only [Int.reduceEq, if_true, if_false] at hm
    refine WC_of_body hT Try.func58 rfl (by simp [Try.f58]) (by simp [Try.f58]) (wx_sound hT _ ?_)
    simp only [Try.f58]
    repeat' (first | simp only [go_sem, Nat.reduceLT, Nat.reduceEqDiff, Nat.reduceAdd, Nat.reduceMul, Nat.reduceSub, Nat.reduceLeDiff, Int.reduceToNat, Int.reduceNeg, Int.reduceLT, Int.reduceLE, Int.reduceEq, reduceCtorEq, Int.natCast_zero, Int.natCast_one, Int.cast_ofNat_Int, Bool.not_not, false_eq_decide, true_eq_decide, hread0, hreadk, read_cons0, read_consk, astore_h0, astore_hk, hget0, hgetk, hset0, hsetk, hlen, hcat, Nat.add_assoc, Nat.add_zero, Nat.zero_add, List.length_append, and_true, true_and, AV.flat, *, -hK, -hm] | with_reducible refine IfB_dec (fun h => ?_) (fun h => ?_) | with_reducible refine Guard_dec (fun h => ?_) (fun h => ?_) | with_reducible refine Guard_ndec (fun h => ?_) (fun h => ?_) | with_reducible refine Guard_not (fun h => ?_) (fun h => ?_) | with_reducible refine IfB_ndec (fun h => ?_) (fun h => ?_) | with_reducible refine IfB_not (fun h => ?_) (fun h => ?_) | with_reducible refine Guard_split (fun h => ?_) (fun h => ?_) | with_reducible refine IfB_split (fun h => ?_) (fun h => ?_))
    refine WX_rows hT hmix [(0, none), (2, none), (1, some [false, true]), (3, none), (4, none), (5, none), (6, none), (7, some [true, true, true, true, true, true, true]), (8, none), (9, none)] (by kernel_rfl) ?_
    repeat' (first | simp only [go_sem, Nat.reduceLT, Nat.reduceEqDiff, Nat.reduceAdd, Nat.reduceMul, Nat.reduceSub, Nat.reduceLeDiff, Int.reduceToNat, Int.reduceNeg, Int.reduceLT, Int.reduceLE, Int.reduceEq, reduceCtorEq, Int.natCast_zero, Int.natCast_one, Int.cast_ofNat_Int, Bool.not_not, false_eq_decide, true_eq_decide, hread0, hreadk, read_cons0, read_consk, astore_h0, astore_hk, hget0, hgetk, hset0, hsetk, hlen, hcat, Nat.add_assoc, Nat.add_zero, Nat.zero_add, List.length_append, and_true, true_and, AV.flat, *, -hK, -bs, -ts, -hm] | refine WC.call (bs _) ?_ | refine WC.call (ts _) ?_ | refine WC.call (refItem_spec _ _ _ _ _ _) ?_ | refine WC.call (refKey_spec _ _) ?_ | with_reducible refine IfB_dec (fun h => ?_) (fun h => ?_) | with_reducible refine Guard_dec (fun h => ?_) (fun h => ?_) | with_reducible refine Guard_ndec (fun h => ?_) (fun h => ?_) | with_reducible refine Guard_not (fun h => ?_) (fun h => ?_) | with_reducible refine IfB_ndec (fun h => ?_) (fun h => ?_) | with_reducible refine IfB_not (fun h => ?_) (fun h => ?_) | with_reducible refine Guard_split (fun h => ?_) (fun h => ?_) | with_reducible refine IfB_split (fun h => ?_) (fun h => ?_))
    all_goals
      refine hK _ _ (Thaw.of_eq ?_ rfl) (Keep.app _ _ _)
      clear hK
      congr 1
      rw [Bool.eq_iff_iff, hm]
      clear hm bs ts
      simp only [keyB, decide_eq_true_eq, decide_eq_false_iff_not, Bool.false_eq_true, false_iff, true_iff, true_and] at *
      omega
  rw [if_neg k1, if_neg k2, if_neg k3, if_neg k4, if_neg k5, if_neg k6, if_neg k7] at hm
  rw [Bool.eq_false_iff.2 (fun h => (hm.1 h).1)] at hK
  clear hm
  refine WC_of_body hT Try.func58 rfl (by simp [Try.f58]) (by simp [Try.f58]) (wx_sound hT _ ?_)
  simp only [Try.f58]
  repeat' (first | simp only [go_sem, Nat.reduceLT, Nat.reduceEqDiff, Nat.reduceAdd, Nat.reduceMul, Nat.reduceSub, Nat.reduceLeDiff, Int.reduceToNat, Int.reduceNeg, Int.reduceLT, Int.reduceLE, Int.reduceEq, reduceCtorEq, Int.natCast_zero, Int.natCast_one, Int.cast_ofNat_Int, Bool.not_not, false_eq_decide, true_eq_decide, hread0, hreadk, read_cons0, read_consk, astore_h0, astore_hk, hget0, hgetk, hset0, hsetk, hlen, hcat, Nat.add_assoc, Nat.add_zero, Nat.zero_add, List.length_append, and_true, true_and, AV.flat, *, -hK, -bs, -ts] | with_reducible refine IfB_dec (fun h => ?_) (fun h => ?_) | with_reducible refine Guard_dec (fun h => ?_) (fun h => ?_) | with_reducible refine Guard_ndec (fun h => ?_) (fun h => ?_) | with_reducible refine Guard_not (fun h => ?_) (fun h => ?_) | with_reducible refine IfB_ndec (fun h => ?_) (fun h => ?_) | with_reducible refine IfB_not (fun h => ?_) (fun h => ?_) | with_reducible refine Guard_split (fun h => ?_) (fun h => ?_) | with_reducible refine IfB_split (fun h => ?_) (fun h => ?_))
  refine WX_rows hT hmix [(0, none), (2, none), (1, some [false, true]), (3, none), (4, none), (5, none), (6, none), (7, some [true, true, true, true, true, true, true]), (8, none), (9, none)] (by kernel_rfl) ?_
  repeat' (first | simp only [go_sem, Nat.reduceLT, Nat.reduceEqDiff, Nat.reduceAdd, Nat.reduceMul, Nat.reduceSub, Nat.reduceLeDiff, Int.reduceToNat, Int.reduceNeg, Int.reduceLT, Int.reduceLE, Int.reduceEq, reduceCtorEq, Int.natCast_zero, Int.natCast_one, Int.cast_ofNat_Int, Bool.not_not, false_eq_decide, true_eq_decide, hread0, hreadk, read_cons0, read_consk, astore_h0, astore_hk, hget0, hgetk, hset0, hsetk, hlen, hcat, Nat.add_assoc, Nat.add_zero, Nat.zero_add, List.length_append, and_true, true_and, AV.flat, *, -hK, -bs, -ts] | refine WC.call (bs _) ?_ | refine WC.call (ts _) ?_ | with_reducible refine IfB_dec (fun h => ?_) (fun h => ?_) | with_reducible refine Guard_dec (fun h => ?_) (fun h => ?_) | with_reducible refine Guard_ndec (fun h => ?_) (fun h => ?_) | with_reducible refine Guard_not (fun h => ?_) (fun h => ?_) | with_reducible refine IfB_ndec (fun h => ?_) (fun h => ?_) | with_reducible refine IfB_not (fun h => ?_) (fun h => ?_) | with_reducible refine Guard_split (fun h => ?_) (fun h => ?_) | with_reducible refine IfB_split (fun h => ?_) (fun h => ?_))
  all_goals exact hK _ _ (.bool _) (Keep.app _ _ _)
end Go.Proofs.Ytakmlfbejbelaaa
