import Derived.Test.YtccfhighlpfdmaaTrkC
set_option linter.unusedSimpArgs false
set_option linter.unusedVariables false
set_option maxRecDepth 100000
set_option maxHeartbeats 40000000
namespace Go.Proofs.Ytccfhighlpfdmaa
open Go Go.Proofs Go.Proofs.PI
deriving instance DecidableEq for Chg
/-! ### the document: may a change be? -/
theorem bare_spec (c : Chg) (H : Heap) : WC Try.prog 71 [c.av] H fun r H' => r = c.bare.av ∧ H' = H := by
  refine WC_val fun K hK => ?_
  obtain ⟨kind, ten, ikey, ival, ifl, idue, iuniq, key, why, to, prim⟩ := c
  unfold Chg.av Chg.bare at *
  simp only at *
  by_cases k1 : kind = 1
  · subst k1
    refine WC_of_body hT Try.func71 rfl (by simp [Try.f71]) (by simp [Try.f71]) (wx_sound hT _ ?_)
    simp only [Try.f71]
    repeat' (first | simp only [go_sem, Nat.reduceLT, Nat.reduceEqDiff, Nat.reduceAdd, Nat.reduceMul, Nat.reduceSub, Nat.reduceLeDiff, Int.reduceToNat, Int.reduceNeg, Int.reduceLT, Int.reduceLE, Int.reduceEq, reduceCtorEq, Int.natCast_zero, Int.natCast_one, Int.cast_ofNat_Int, Bool.not_not, false_eq_decide, true_eq_decide, hread0, hreadk, read_cons0, read_consk, astore_h0, astore_hk, hget0, hgetk, hset0, hsetk, hlen, hcat, Nat.add_assoc, Nat.add_zero, Nat.zero_add, List.length_append, and_true, true_and, AV.flat, *, -hK] | with_reducible refine IfB_dec (fun h => ?_) (fun h => ?_) | with_reducible refine Guard_dec (fun h => ?_) (fun h => ?_) | with_reducible refine Guard_ndec (fun h => ?_) (fun h => ?_) | with_reducible refine Guard_not (fun h => ?_) (fun h => ?_) | with_reducible refine IfB_ndec (fun h => ?_) (fun h => ?_) | with_reducible refine IfB_not (fun h => ?_) (fun h => ?_) | with_reducible refine Guard_split (fun h => ?_) (fun h => ?_) | with_reducible refine IfB_split (fun h => ?_) (fun h => ?_))
    exact hK _ _ (Thaw.agg_row ⟨.int _ _, .int _ _, .str _, .str _, .int _ _, .int _ _, .int _ _, .str _, .int _ _, .int _ _, .bool _, trivial⟩) (Keep.app _ _ _)
  by_cases k2 : kind = 2
  · subst k2
    refine WC_of_body hT Try.func71 rfl (by simp [Try.f71]) (by simp [Try.f71]) (wx_sound hT _ ?_)
    simp only [Try.f71]
    repeat' (first | simp only [go_sem, Nat.reduceLT, Nat.reduceEqDiff, Nat.reduceAdd, Nat.reduceMul, Nat.reduceSub, Nat.reduceLeDiff, Int.reduceToNat, Int.reduceNeg, Int.reduceLT, Int.reduceLE, Int.reduceEq, reduceCtorEq, Int.natCast_zero, Int.natCast_one, Int.cast_ofNat_Int, Bool.not_not, false_eq_decide, true_eq_decide, hread0, hreadk, read_cons0, read_consk, astore_h0, astore_hk, hget0, hgetk, hset0, hsetk, hlen, hcat, Nat.add_assoc, Nat.add_zero, Nat.zero_add, List.length_append, and_true, true_and, AV.flat, *, -hK] | with_reducible refine IfB_dec (fun h => ?_) (fun h => ?_) | with_reducible refine Guard_dec (fun h => ?_) (fun h => ?_) | with_reducible refine Guard_ndec (fun h => ?_) (fun h => ?_) | with_reducible refine Guard_not (fun h => ?_) (fun h => ?_) | with_reducible refine IfB_ndec (fun h => ?_) (fun h => ?_) | with_reducible refine IfB_not (fun h => ?_) (fun h => ?_) | with_reducible refine Guard_split (fun h => ?_) (fun h => ?_) | with_reducible refine IfB_split (fun h => ?_) (fun h => ?_))
    exact hK _ _ (Thaw.agg_row ⟨.int _ _, .int _ _, .str _, .str _, .int _ _, .int _ _, .int _ _, .str _, .int _ _, .int _ _, .bool _, trivial⟩) (Keep.app _ _ _)
  by_cases k3 : kind = 3
  · subst k3
    refine WC_of_body hT Try.func71 rfl (by simp [Try.f71]) (by simp [Try.f71]) (wx_sound hT _ ?_)
    simp only [Try.f71]
    repeat' (first | simp only [go_sem, Nat.reduceLT, Nat.reduceEqDiff, Nat.reduceAdd, Nat.reduceMul, Nat.reduceSub, Nat.reduceLeDiff, Int.reduceToNat, Int.reduceNeg, Int.reduceLT, Int.reduceLE, Int.reduceEq, reduceCtorEq, Int.natCast_zero, Int.natCast_one, Int.cast_ofNat_Int, Bool.not_not, false_eq_decide, true_eq_decide, hread0, hreadk, read_cons0, read_consk, astore_h0, astore_hk, hget0, hgetk, hset0, hsetk, hlen, hcat, Nat.add_assoc, Nat.add_zero, Nat.zero_add, List.length_append, and_true, true_and, AV.flat, *, -hK] | with_reducible refine IfB_dec (fun h => ?_) (fun h => ?_) | with_reducible refine Guard_dec (fun h => ?_) (fun h => ?_) | with_reducible refine Guard_ndec (fun h => ?_) (fun h => ?_) | with_reducible refine Guard_not (fun h => ?_) (fun h => ?_) | with_reducible refine IfB_ndec (fun h => ?_) (fun h => ?_) | with_reducible refine IfB_not (fun h => ?_) (fun h => ?_) | with_reducible refine Guard_split (fun h => ?_) (fun h => ?_) | with_reducible refine IfB_split (fun h => ?_) (fun h => ?_))
    exact hK _ _ (Thaw.agg_row ⟨.int _ _, .int _ _, .str _, .str _, .int _ _, .int _ _, .int _ _, .str _, .int _ _, .int _ _, .bool _, trivial⟩) (Keep.app _ _ _)
  by_cases k4 : kind = 4
  · subst k4
    refine WC_of_body hT Try.func71 rfl (by simp [Try.f71]) (by simp [Try.f71]) (wx_sound hT _ ?_)
    simp only [Try.f71]
    repeat' (first | simp only [go_sem, Nat.reduceLT, Nat.reduceEqDiff, Nat.reduceAdd, Nat.reduceMul, Nat.reduceSub, Nat.reduceLeDiff, Int.reduceToNat, Int.reduceNeg, Int.reduceLT, Int.reduceLE, Int.reduceEq, reduceCtorEq, Int.natCast_zero, Int.natCast_one, Int.cast_ofNat_Int, Bool.not_not, false_eq_decide, true_eq_decide, hread0, hreadk, read_cons0, read_consk, astore_h0, astore_hk, hget0, hgetk, hset0, hsetk, hlen, hcat, Nat.add_assoc, Nat.add_zero, Nat.zero_add, List.length_append, and_true, true_and, AV.flat, *, -hK] | with_reducible refine IfB_dec (fun h => ?_) (fun h => ?_) | with_reducible refine Guard_dec (fun h => ?_) (fun h => ?_) | with_reducible refine Guard_ndec (fun h => ?_) (fun h => ?_) | with_reducible refine Guard_not (fun h => ?_) (fun h => ?_) | with_reducible refine IfB_ndec (fun h => ?_) (fun h => ?_) | with_reducible refine IfB_not (fun h => ?_) (fun h => ?_) | with_reducible refine Guard_split (fun h => ?_) (fun h => ?_) | with_reducible refine IfB_split (fun h => ?_) (fun h => ?_))
    exact hK _ _ (Thaw.agg_row ⟨.int _ _, .int _ _, .str _, .str _, .int _ _, .int _ _, .int _ _, .str _, .int _ _, .int _ _, .bool _, trivial⟩) (Keep.app _ _ _)
  by_cases k5 : kind = 5
  · subst k5
    refine WC_of_body hT Try.func71 rfl (by simp [Try.f71]) (by simp [Try.f71]) (wx_sound hT _ ?_)
    simp only [Try.f71]
    repeat' (first | simp only [go_sem, Nat.reduceLT, Nat.reduceEqDiff, Nat.reduceAdd, Nat.reduceMul, Nat.reduceSub, Nat.reduceLeDiff, Int.reduceToNat, Int.reduceNeg, Int.reduceLT, Int.reduceLE, Int.reduceEq, reduceCtorEq, Int.natCast_zero, Int.natCast_one, Int.cast_ofNat_Int, Bool.not_not, false_eq_decide, true_eq_decide, hread0, hreadk, read_cons0, read_consk, astore_h0, astore_hk, hget0, hgetk, hset0, hsetk, hlen, hcat, Nat.add_assoc, Nat.add_zero, Nat.zero_add, List.length_append, and_true, true_and, AV.flat, *, -hK] | with_reducible refine IfB_dec (fun h => ?_) (fun h => ?_) | with_reducible refine Guard_dec (fun h => ?_) (fun h => ?_) | with_reducible refine Guard_ndec (fun h => ?_) (fun h => ?_) | with_reducible refine Guard_not (fun h => ?_) (fun h => ?_) | with_reducible refine IfB_ndec (fun h => ?_) (fun h => ?_) | with_reducible refine IfB_not (fun h => ?_) (fun h => ?_) | with_reducible refine Guard_split (fun h => ?_) (fun h => ?_) | with_reducible refine IfB_split (fun h => ?_) (fun h => ?_))
    exact hK _ _ (Thaw.agg_row ⟨.int _ _, .int _ _, .str _, .str _, .int _ _, .int _ _, .int _ _, .str _, .int _ _, .int _ _, .bool _, trivial⟩) (Keep.app _ _ _)
  by_cases k6 : kind = 6
  · subst k6
    refine WC_of_body hT Try.func71 rfl (by simp [Try.f71]) (by simp [Try.f71]) (wx_sound hT _ ?_)
    simp only [Try.f71]
    repeat' (first | simp only [go_sem, Nat.reduceLT, Nat.reduceEqDiff, Nat.reduceAdd, Nat.reduceMul, Nat.reduceSub, Nat.reduceLeDiff, Int.reduceToNat, Int.reduceNeg, Int.reduceLT, Int.reduceLE, Int.reduceEq, reduceCtorEq, Int.natCast_zero, Int.natCast_one, Int.cast_ofNat_Int, Bool.not_not, false_eq_decide, true_eq_decide, hread0, hreadk, read_cons0, read_consk, astore_h0, astore_hk, hget0, hgetk, hset0, hsetk, hlen, hcat, Nat.add_assoc, Nat.add_zero, Nat.zero_add, List.length_append, and_true, true_and, AV.flat, *, -hK] | with_reducible refine IfB_dec (fun h => ?_) (fun h => ?_) | with_reducible refine Guard_dec (fun h => ?_) (fun h => ?_) | with_reducible refine Guard_ndec (fun h => ?_) (fun h => ?_) | with_reducible refine Guard_not (fun h => ?_) (fun h => ?_) | with_reducible refine IfB_ndec (fun h => ?_) (fun h => ?_) | with_reducible refine IfB_not (fun h => ?_) (fun h => ?_) | with_reducible refine Guard_split (fun h => ?_) (fun h => ?_) | with_reducible refine IfB_split (fun h => ?_) (fun h => ?_))
    exact hK _ _ (Thaw.agg_row ⟨.int _ _, .int _ _, .str _, .str _, .int _ _, .int _ _, .int _ _, .str _, .int _ _, .int _ _, .bool _, trivial⟩) (Keep.app _ _ _)
  by_cases k7 : kind = 7
  · subst k7
    refine WC_of_body hT Try.func71 rfl (by simp [Try.f71]) (by simp [Try.f71]) (wx_sound hT _ ?_)
    simp only [Try.f71]
    repeat' (first | simp only [go_sem, Nat.reduceLT, Nat.reduceEqDiff, Nat.reduceAdd, Nat.reduceMul, Nat.reduceSub, Nat.reduceLeDiff, Int.reduceToNat, Int.reduceNeg, Int.reduceLT, Int.reduceLE, Int.reduceEq, reduceCtorEq, Int.natCast_zero, Int.natCast_one, Int.cast_ofNat_Int, Bool.not_not, false_eq_decide, true_eq_decide, hread0, hreadk, read_cons0, read_consk, astore_h0, astore_hk, hget0, hgetk, hset0, hsetk, hlen, hcat, Nat.add_assoc, Nat.add_zero, Nat.zero_add, List.length_append, and_true, true_and, AV.flat, *, -hK] | with_reducible refine IfB_dec (fun h => ?_) (fun h => ?_) | with_reducible refine Guard_dec (fun h => ?_) (fun h => ?_) | with_reducible refine Guard_ndec (fun h => ?_) (fun h => ?_) | with_reducible refine Guard_not (fun h => ?_) (fun h => ?_) | with_reducible refine IfB_ndec (fun h => ?_) (fun h => ?_) | with_reducible refine IfB_not (fun h => ?_) (fun h => ?_) | with_reducible refine Guard_split (fun h => ?_) (fun h => ?_) | with_reducible refine IfB_split (fun h => ?_) (fun h => ?_))
    exact hK _ _ (Thaw.agg_row ⟨.int _ _, .int _ _, .str _, .str _, .int _ _, .int _ _, .int _ _, .str _, .int _ _, .int _ _, .bool _, trivial⟩) (Keep.app _ _ _)
  rw [if_neg k1, if_neg k2, if_neg k3, if_neg k4, if_neg k5, if_neg k6, if_neg k7] at hK
  simp only [chg0] at hK
  refine WC_of_body hT Try.func71 rfl (by simp [Try.f71]) (by simp [Try.f71]) (wx_sound hT _ ?_)
  simp only [Try.f71]
  repeat' (first | simp only [go_sem, Nat.reduceLT, Nat.reduceEqDiff, Nat.reduceAdd, Nat.reduceMul, Nat.reduceSub, Nat.reduceLeDiff, Int.reduceToNat, Int.reduceNeg, Int.reduceLT, Int.reduceLE, Int.reduceEq, reduceCtorEq, Int.natCast_zero, Int.natCast_one, Int.cast_ofNat_Int, Bool.not_not, false_eq_decide, true_eq_decide, hread0, hreadk, read_cons0, read_consk, astore_h0, astore_hk, hget0, hgetk, hset0, hsetk, hlen, hcat, Nat.add_assoc, Nat.add_zero, Nat.zero_add, List.length_append, and_true, true_and, AV.flat, *, -hK] | with_reducible refine IfB_dec (fun h => ?_) (fun h => ?_) | with_reducible refine Guard_dec (fun h => ?_) (fun h => ?_) | with_reducible refine Guard_ndec (fun h => ?_) (fun h => ?_) | with_reducible refine Guard_not (fun h => ?_) (fun h => ?_) | with_reducible refine IfB_ndec (fun h => ?_) (fun h => ?_) | with_reducible refine IfB_not (fun h => ?_) (fun h => ?_) | with_reducible refine Guard_split (fun h => ?_) (fun h => ?_) | with_reducible refine IfB_split (fun h => ?_) (fun h => ?_))
  exact hK _ _ (Thaw.agg_row ⟨.int _ _, .int _ _, .str _, .str _, .int _ _, .int _ _, .int _ _, .str _, .int _ _, .int _ _, .bool _, trivial⟩) (Keep.app _ _ _)
theorem refItem_spec (a b : List UInt8) (f d u : Int) (H : Heap) : WC Try.prog 72 [.agg [.str a, .str b, .int .u32 f, .int .i64 d, .int .u64 u]] H fun r H' => r = .bool (decide ((1 ≤ a.length ∧ a.length ≤ 32) ∧ b.length ≤ 512 ∧ 0 ≤ d ∧ d ≤ 1099511627776)) ∧ H' = H := by
  refine WC_val fun K hK => ?_
  refine WC_of_body hT Try.func72 rfl (by simp [Try.f72]) (by simp [Try.f72]) (wx_sound hT _ ?_)
  simp only [Try.f72]
  repeat' (first | simp only [go_sem, Nat.reduceLT, Nat.reduceEqDiff, Nat.reduceAdd, Nat.reduceMul, Nat.reduceSub, Nat.reduceLeDiff, Int.reduceToNat, Int.reduceNeg, Int.reduceLT, Int.reduceLE, Int.reduceEq, reduceCtorEq, Int.natCast_zero, Int.natCast_one, Int.cast_ofNat_Int, Bool.not_not, false_eq_decide, true_eq_decide, hread0, hreadk, read_cons0, read_consk, astore_h0, astore_hk, hget0, hgetk, hset0, hsetk, hlen, hcat, Nat.add_assoc, Nat.add_zero, Nat.zero_add, List.length_append, and_true, true_and, AV.flat, *, -hK] | refine WC.call (refKey_spec _ _) ?_ | with_reducible refine IfB_dec (fun h => ?_) (fun h => ?_) | with_reducible refine Guard_dec (fun h => ?_) (fun h => ?_) | with_reducible refine Guard_ndec (fun h => ?_) (fun h => ?_) | with_reducible refine Guard_not (fun h => ?_) (fun h => ?_) | with_reducible refine IfB_ndec (fun h => ?_) (fun h => ?_) | with_reducible refine IfB_not (fun h => ?_) (fun h => ?_) | with_reducible refine Guard_split (fun h => ?_) (fun h => ?_) | with_reducible refine IfB_split (fun h => ?_) (fun h => ?_))
  all_goals
    refine hK _ _ (Thaw.of_eq ?_ rfl) (Keep.app _ _ _)
    clear hK
    congr 1
    simp only [keyB, decide_eq_true_eq, decide_eq_false_iff_not] at *
    try symm
    first
      | (rw [decide_eq_false_iff_not]; omega)
      | (rw [decide_eq_true_eq]; omega)
      | (rw [decide_eq_decide]; omega)
/-! ### lists of changes are the same -/
/-! ### the document: may a change be, as a whole -/
theorem refMayC_spec (c : Chg) (H : Heap) : WC Try.prog 63 [c.av] H fun r H' => r = .bool c.mayB ∧ H' = H := by
  refine WC_val fun K hK => ?_
  have bs := fun J => bare_spec c J
  have ts := fun J => refTenant_spec c.ten J
  by_cases he : c.bare = c
  rotate_left
  · have hm : c.mayB = false := by unfold Chg.mayB; rw [decide_eq_false_iff_not]; exact fun h => he h.2.2
    rw [hm] at hK
    clear hm ts
    generalize c.bare = d at *
    obtain ⟨k1, t1, a1, b1, f1, d1, u1, y1, w1, o1, p1⟩ := d
    obtain ⟨k2, t2, a2, b2, f2, d2, u2, y2, w2, o2, p2⟩ := c
    simp only [Chg.mk.injEq] at he
    have hdd : (decide (k1 = k2) && (decide (t1 = t2) && ((decide (a1 = a2) && (decide (b1 = b2) && (decide (f1 = f2) && (decide (d1 = d2) && decide (u1 = u2))))) && (decide (y1 = y2) && (decide (w1 = w2) && (decide (o1 = o2) && decide (p1 = p2))))))) = false := by
      rw [Bool.eq_false_iff]; intro h; simp only [Bool.and_eq_true, decide_eq_true_eq] at h; exact he (by simpa only [and_assoc] using h)
    clear he
    unfold Chg.av at *
    simp only at *
    refine WC_of_body hT Try.func63 rfl (by simp [Try.f63]) (by simp [Try.f63]) (wx_sound hT _ ?_)
    simp only [Try.f63]
    repeat' (first | simp only [go_sem, Nat.reduceLT, Nat.reduceEqDiff, Nat.reduceAdd, Nat.reduceMul, Nat.reduceSub, Nat.reduceLeDiff, Int.reduceToNat, Int.reduceNeg, Int.reduceLT, Int.reduceLE, Int.reduceEq, reduceCtorEq, Int.natCast_zero, Int.natCast_one, Int.cast_ofNat_Int, Bool.not_not, false_eq_decide, true_eq_decide, hread0, hreadk, read_cons0, read_consk, astore_h0, astore_hk, hget0, hgetk, hset0, hsetk, hlen, hcat, Nat.add_assoc, Nat.add_zero, Nat.zero_add, List.length_append, and_true, true_and, AV.flat, *, -hK, -bs, -hdd] | with_reducible refine IfB_dec (fun h => ?_) (fun h => ?_) | with_reducible refine Guard_dec (fun h => ?_) (fun h => ?_) | with_reducible refine Guard_ndec (fun h => ?_) (fun h => ?_) | with_reducible refine Guard_not (fun h => ?_) (fun h => ?_) | with_reducible refine IfB_ndec (fun h => ?_) (fun h => ?_) | with_reducible refine IfB_not (fun h => ?_) (fun h => ?_) | with_reducible refine Guard_split (fun h => ?_) (fun h => ?_) | with_reducible refine IfB_split (fun h => ?_) (fun h => ?_))
    refine WX_rows hT hmix [(0, none), (2, none), (1, some [false, true]), (3, none), (4, none), (5, none), (6, none), (7, some [true, true, true, true, true, true, true]), (8, none), (9, none)] (by kernel_rfl) ?_
    repeat' (first | simp only [go_sem, Nat.reduceLT, Nat.reduceEqDiff, Nat.reduceAdd, Nat.reduceMul, Nat.reduceSub, Nat.reduceLeDiff, Int.reduceToNat, Int.reduceNeg, Int.reduceLT, Int.reduceLE, Int.reduceEq, reduceCtorEq, Int.natCast_zero, Int.natCast_one, Int.cast_ofNat_Int, Bool.not_not, false_eq_decide, true_eq_decide, hread0, hreadk, read_cons0, read_consk, astore_h0, astore_hk, hget0, hgetk, hset0, hsetk, hlen, hcat, Nat.add_assoc, Nat.add_zero, Nat.zero_add, List.length_append, and_true, true_and, AV.flat, *, -hK, -bs] | refine WC.call (bs _) ?_ | with_reducible refine IfB_dec (fun h => ?_) (fun h => ?_) | with_reducible refine Guard_dec (fun h => ?_) (fun h => ?_) | with_reducible refine Guard_ndec (fun h => ?_) (fun h => ?_) | with_reducible refine Guard_not (fun h => ?_) (fun h => ?_) | with_reducible refine IfB_ndec (fun h => ?_) (fun h => ?_) | with_reducible refine IfB_not (fun h => ?_) (fun h => ?_) | with_reducible refine Guard_split (fun h => ?_) (fun h => ?_) | with_reducible refine IfB_split (fun h => ?_) (fun h => ?_))
    all_goals exact hK _ _ (.bool _) (Keep.app _ _ _)
  rw [he] at bs
  have hm : c.mayB = true ↔ (c.goodP ∧ 0 ≤ c.ten ∧ c.ten < 4) := by simp only [Chg.mayB, decide_eq_true_eq]; exact ⟨fun h => ⟨h.1, h.2.1⟩, fun h => ⟨h.1, h.2, he⟩⟩
  obtain ⟨kind, ten, ikey, ival, ifl, idue, iuniq, key, why, to, prim⟩ := c
  clear he
  unfold Chg.av at *
  unfold Chg.goodP at hm
  simp only at *
  by_cases hten : 0 ≤ ten ∧ ten < 4
  rotate_left
  · rw [Bool.eq_false_iff.2 (fun h => hten (hm.1 h).2)] at hK
    rw [decide_eq_false hten] at ts
    clear hm hten
    refine WC_of_body hT Try.func63 rfl (by simp [Try.f63]) (by simp [Try.f63]) (wx_sound hT _ ?_)
    simp only [Try.f63]
    repeat' (first | simp only [go_sem, Nat.reduceLT, Nat.reduceEqDiff, Nat.reduceAdd, Nat.reduceMul, Nat.reduceSub, Nat.reduceLeDiff, Int.reduceToNat, Int.reduceNeg, Int.reduceLT, Int.reduceLE, Int.reduceEq, reduceCtorEq, Int.natCast_zero, Int.natCast_one, Int.cast_ofNat_Int, Bool.not_not, false_eq_decide, true_eq_decide, hread0, hreadk, read_cons0, read_consk, astore_h0, astore_hk, hget0, hgetk, hset0, hsetk, hlen, hcat, Nat.add_assoc, Nat.add_zero, Nat.zero_add, List.length_append, and_true, true_and, AV.flat, *, -hK, -bs, -ts] | with_reducible refine IfB_dec (fun h => ?_) (fun h => ?_) | with_reducible refine Guard_dec (fun h => ?_) (fun h => ?_) | with_reducible refine Guard_ndec (fun h => ?_) (fun h => ?_) | with_reducible refine Guard_not (fun h => ?_) (fun h => ?_) | with_reducible refine IfB_ndec (fun h => ?_) (fun h => ?_) | with_reducible refine IfB_not (fun h => ?_) (fun h => ?_) | with_reducible refine Guard_split (fun h => ?_) (fun h => ?_) | with_reducible refine IfB_split (fun h => ?_) (fun h => ?_))
    refine WX_rows hT hmix [(0, none), (2, none), (1, some [false, true]), (3, none), (4, none), (5, none), (6, none), (7, some [true, true, true, true, true, true, true]), (8, none), (9, none)] (by kernel_rfl) ?_
    repeat' (first | simp only [go_sem, Nat.reduceLT, Nat.reduceEqDiff, Nat.reduceAdd, Nat.reduceMul, Nat.reduceSub, Nat.reduceLeDiff, Int.reduceToNat, Int.reduceNeg, Int.reduceLT, Int.reduceLE, Int.reduceEq, reduceCtorEq, Int.natCast_zero, Int.natCast_one, Int.cast_ofNat_Int, Bool.not_not, false_eq_decide, true_eq_decide, hread0, hreadk, read_cons0, read_consk, astore_h0, astore_hk, hget0, hgetk, hset0, hsetk, hlen, hcat, Nat.add_assoc, Nat.add_zero, Nat.zero_add, List.length_append, and_true, true_and, AV.flat, *, -hK, -bs, -ts] | refine WC.call (bs _) ?_ | refine WC.call (ts _) ?_ | with_reducible refine IfB_dec (fun h => ?_) (fun h => ?_) | with_reducible refine Guard_dec (fun h => ?_) (fun h => ?_) | with_reducible refine Guard_ndec (fun h => ?_) (fun h => ?_) | with_reducible refine Guard_not (fun h => ?_) (fun h => ?_) | with_reducible refine IfB_ndec (fun h => ?_) (fun h => ?_) | with_reducible refine IfB_not (fun h => ?_) (fun h => ?_) | with_reducible refine Guard_split (fun h => ?_) (fun h => ?_) | with_reducible refine IfB_split (fun h => ?_) (fun h => ?_))
    all_goals exact hK _ _ (.bool _) (Keep.app _ _ _)
  rw [decide_eq_true hten] at ts
  by_cases k1 : kind = 1
  · subst k1
    simp only [Int.reduceEq, if_true, if_false] at hm
    refine WC_of_body hT Try.func63 rfl (by simp [Try.f63]) (by simp [Try.f63]) (wx_sound hT _ ?_)
    simp only [Try.f63]
    repeat' (first | simp only [go_sem, Nat.reduceLT, Nat.reduceEqDiff, Nat.reduceAdd, Nat.reduceMul, Nat.reduceSub, Nat.reduceLeDiff, Int.reduceToNat, Int.reduceNeg, Int.reduceLT, Int.reduceLE, Int.reduceEq, reduceCtorEq, Int.natCast_zero, Int.natCast_one, Int.cast_ofNat_Int, Bool.not_not, false_eq_decide, true_eq_decide, hread0, hreadk, read_cons0, read_consk, astore_h0, astore_hk, hget0, hgetk, hset0, hsetk, hlen, hcat, Nat.add_assoc, Nat.add_zero, Nat.zero_add, List.length_append, and_true, true_and, AV.flat, *, -hK, -hm] | with_reducible refine IfB_dec (fun h => ?_) (fun h => ?_) | with_reducible refine Guard_dec (fun h => ?_) (fun h => ?_) | with_reducible refine Guard_ndec (fun h => ?_) (fun h => ?_) | with_reducible refine Guard_not (fun h => ?_) (fun h => ?_) | with_reducible refine IfB_ndec (fun h => ?_) (fun h => ?_) | with_reducible refine IfB_not (fun h => ?_) (fun h => ?_) | with_reducible refine Guard_split (fun h => ?_) (fun h => ?_) | with_reducible refine IfB_split (fun h => ?_) (fun h => ?_))
    refine WX_rows hT hmix [(0, none), (2, none), (1, some [false, true]), (3, none), (4, none), (5, none), (6, none), (7, some [true, true, true, true, true, true, true]), (8, none), (9, none)] (by kernel_rfl) ?_
    repeat' (first | simp only [go_sem, Nat.reduceLT, Nat.reduceEqDiff, Nat.reduceAdd, Nat.reduceMul, Nat.reduceSub, Nat.reduceLeDiff, Int.reduceToNat, Int.reduceNeg, Int.reduceLT, Int.reduceLE, Int.reduceEq, reduceCtorEq, Int.natCast_zero, Int.natCast_one, Int.cast_ofNat_Int, Bool.not_not, false_eq_decide, true_eq_decide, hread0, hreadk, read_cons0, read_consk, astore_h0, astore_hk, hget0, hgetk, hset0, hsetk, hlen, hcat, Nat.add_assoc, Nat.add_zero, Nat.zero_add, List.length_append, and_true, true_and, AV.flat, *, -hK, -bs, -ts, -hm] | refine WC.call (bs _) ?_ | refine WC.call (ts _) ?_ | refine WC.call (refItem_spec _ _ _ _ _ _) ?_ | refine WC.call (refKey_spec _ _) ?_ | with_reducible refine IfB_dec (fun h => ?_) (fun h => ?_) | with_reducible refine Guard_dec (fun h => ?_) (fun h => ?_) | with_reducible refine Guard_ndec (fun h => ?_) (fun h => ?_) | with_reducible refine Guard_not (fun h => ?_) (fun h => ?_) | with_reducible refine IfB_ndec (fun h => ?_) (fun h => ?_) | with_reducible refine IfB_not (fun h => ?_) (fun h => ?_) | with_reducible refine Guard_split (fun h => ?_) (fun h => ?_) | with_reducible refine IfB_split (fun h => ?_) (fun h => ?_))
    all_goals
      refine hK _ _ (Thaw.of_eq ?_ rfl) (Keep.app _ _ _)
      clear hK
      congr 1
      rw [Bool.eq_iff_iff, hm]
      clear hm bs ts
      simp only [keyB, decide_eq_true_eq, decide_eq_false_iff_not, Bool.false_eq_true, false_iff, true_iff, true_and] at *
      omega
  by_cases k2 : kind = 2
  · subst k2
    simp only [Int.reduceEq, if_true, if_false] at hm
    refine WC_of_body hT Try.func63 rfl (by simp [Try.f63]) (by simp [Try.f63]) (wx_sound hT _ ?_)
    simp only [Try.f63]
    repeat' (first | simp only [go_sem, Nat.reduceLT, Nat.reduceEqDiff, Nat.reduceAdd, Nat.reduceMul, Nat.reduceSub, Nat.reduceLeDiff, Int.reduceToNat, Int.reduceNeg, Int.reduceLT, Int.reduceLE, Int.reduceEq, reduceCtorEq, Int.natCast_zero, Int.natCast_one, Int.cast_ofNat_Int, Bool.not_not, false_eq_decide, true_eq_decide, hread0, hreadk, read_cons0, read_consk, astore_h0, astore_hk, hget0, hgetk, hset0, hsetk, hlen, hcat, Nat.add_assoc, Nat.add_zero, Nat.zero_add, List.length_append, and_true, true_and, AV.flat, *, -hK, -hm] | with_reducible refine IfB_dec (fun h => ?_) (fun h => ?_) | with_reducible refine Guard_dec (fun h => ?_) (fun h => ?_) | with_reducible refine Guard_ndec (fun h => ?_) (fun h => ?_) | with_reducible refine Guard_not (fun h => ?_) (fun h => ?_) | with_reducible refine IfB_ndec (fun h => ?_) (fun h => ?_) | with_reducible refine IfB_not (fun h => ?_) (fun h => ?_) | with_reducible refine Guard_split (fun h => ?_) (fun h => ?_) | with_reducible refine IfB_split (fun h => ?_) (fun h => ?_))
    refine WX_rows hT hmix [(0, none), (2, none), (1, some [false, true]), (3, none), (4, none), (5, none), (6, none), (7, some [true, true, true, true, true, true, true]), (8, none), (9, none)] (by kernel_rfl) ?_
    repeat' (first | simp only [go_sem, Nat.reduceLT, Nat.reduceEqDiff, Nat.reduceAdd, Nat.reduceMul, Nat.reduceSub, Nat.reduceLeDiff, Int.reduceToNat, Int.reduceNeg, Int.reduceLT, Int.reduceLE, Int.reduceEq, reduceCtorEq, Int.natCast_zero, Int.natCast_one, Int.cast_ofNat_Int, Bool.not_not, false_eq_decide, true_eq_decide, hread0, hreadk, read_cons0, read_consk, astore_h0, astore_hk, hget0, hgetk, hset0, hsetk, hlen, hcat, Nat.add_assoc, Nat.add_zero, Nat.zero_add, List.length_append, and_true, true_and, AV.flat, *, -hK, -bs, -ts, -hm] | refine WC.call (bs _) ?_ | refine WC.call (ts _) ?_ | refine WC.call (refItem_spec _ _ _ _ _ _) ?_ | refine WC.call (refKey_spec _ _) ?_ | with_reducible refine IfB_dec (fun h => ?_) (fun h => ?_) | with_reducible refine Guard_dec (fun h => ?_) (fun h => ?_) | with_reducible refine Guard_ndec (fun h => ?_) (fun h => ?_) | with_reducible refine Guard_not (fun h => ?_) (fun h => ?_) | with_reducible refine IfB_ndec (fun h => ?_) (fun h => ?_) | with_reducible refine IfB_not (fun h => ?_) (fun h => ?_) | with_reducible refine Guard_split (fun h => ?_) (fun h => ?_) | with_reducible refine IfB_split (fun h => ?_) (fun h => ?_))
    all_goals
      refine hK _ _ (Thaw.of_eq ?_ rfl) (Keep.app _ _ _)
      clear hK
      congr 1
      rw [Bool.eq_iff_iff, hm]
      clear hm bs ts
      simp only [keyB, decide_eq_true_eq, decide_eq_false_iff_not, Bool.false_eq_true, false_iff, true_iff, true_and] at *
      omega
  by_cases k3 : kind = 3
  · subst k3
    simp only [Int.reduceEq, if_true, if_false] at hm
    refine WC_of_body hT Try.func63 rfl (by simp [Try.f63]) (by simp [Try.f63]) (wx_sound hT _ ?_)
    simp only [Try.f63]
    repeat' (first | simp only [go_sem, Nat.reduceLT, Nat.reduceEqDiff, Nat.reduceAdd, Nat.reduceMul, Nat.reduceSub, Nat.reduceLeDiff, Int.reduceToNat, Int.reduceNeg, Int.reduceLT, Int.reduceLE, Int.reduceEq, reduceCtorEq, Int.natCast_zero, Int.natCast_one, Int.cast_ofNat_Int, Bool.not_not, false_eq_decide, true_eq_decide, hread0, hreadk, read_cons0, read_consk, astore_h0, astore_hk, hget0, hgetk, hset0, hsetk, hlen, hcat, Nat.add_assoc, Nat.add_zero, Nat.zero_add, List.length_append, and_true, true_and, AV.flat, *, -hK, -hm] | with_reducible refine IfB_dec (fun h => ?_) (fun h => ?_) | with_reducible refine Guard_dec (fun h => ?_) (fun h => ?_) | with_reducible refine Guard_ndec (fun h => ?_) (fun h => ?_) | with_reducible refine Guard_not (fun h => ?_) (fun h => ?_) | with_reducible refine IfB_ndec (fun h => ?_) (fun h => ?_) | with_reducible refine IfB_not (fun h => ?_) (fun h => ?_) | with_reducible refine Guard_split (fun h => ?_) (fun h => ?_) | with_reducible refine IfB_split (fun h => ?_) (fun h => ?_))
    refine WX_rows hT hmix [(0, none), (2, none), (1, some [false, true]), (3, none), (4, none), (5, none), (6, none), (7, some [true, true, true, true, true, true, true]), (8, none), (9, none)] (by kernel_rfl) ?_
    repeat' (first | simp only [go_sem, Nat.reduceLT, Nat.reduceEqDiff, Nat.reduceAdd, Nat.reduceMul, Nat.reduceSub, Nat.reduceLeDiff, Int.reduceToNat, Int.reduceNeg, Int.reduceLT, Int.reduceLE, Int.reduceEq, reduceCtorEq, Int.natCast_zero, Int.natCast_one, Int.cast_ofNat_Int, Bool.not_not, false_eq_decide, true_eq_decide, hread0, hreadk, read_cons0, read_consk, astore_h0, astore_hk, hget0, hgetk, hset0, hsetk, hlen, hcat, Nat.add_assoc, Nat.add_zero, Nat.zero_add, List.length_append, and_true, true_and, AV.flat, *, -hK, -bs, -ts, -hm] | refine WC.call (bs _) ?_ | refine WC.call (ts _) ?_ | refine WC.call (refItem_spec _ _ _ _ _ _) ?_ | refine WC.call (refKey_spec _ _) ?_ | with_reducible refine IfB_dec (fun h => ?_) (fun h => ?_) | with_reducible refine Guard_dec (fun h => ?_) (fun h => ?_) | with_reducible refine Guard_ndec (fun h => ?_) (fun h => ?_) | with_reducible refine Guard_not (fun h => ?_) (fun h => ?_) | with_reducible refine IfB_ndec (fun h => ?_) (fun h => ?_) | with_reducible refine IfB_not (fun h => ?_) (fun h => ?_) | with_reducible refine Guard_split (fun h => ?_) (fun h => ?_) | with_reducible refine IfB_split (fun h => ?_) (fun h => ?_))
    all_goals
      refine hK _ _ (Thaw.of_eq ?_ rfl) (Keep.app _ _ _)
      clear hK
      congr 1
      rw [Bool.eq_iff_iff, hm]
      clear hm bs ts
      simp only [keyB, decide_eq_true_eq, decide_eq_false_iff_not, Bool.false_eq_true, false_iff, true_iff, true_and] at *
      omega
  by_cases k4 : kind = 4
  · subst k4
    simp only [Int.reduceEq, if_true, if_false] at hm
    refine WC_of_body hT Try.func63 rfl (by simp [Try.f63]) (by simp [Try.f63]) (wx_sound hT _ ?_)
    simp only [Try.f63]
    repeat' (first | simp only [go_sem, Nat.reduceLT, Nat.reduceEqDiff, Nat.reduceAdd, Nat.reduceMul, Nat.reduceSub, Nat.reduceLeDiff, Int.reduceToNat, Int.reduceNeg, Int.reduceLT, Int.reduceLE, Int.reduceEq, reduceCtorEq, Int.natCast_zero, Int.natCast_one, Int.cast_ofNat_Int, Bool.not_not, false_eq_decide, true_eq_decide, hread0, hreadk, read_cons0, read_consk, astore_h0, astore_hk, hget0, hgetk, hset0, hsetk, hlen, hcat, Nat.add_assoc, Nat.add_zero, Nat.zero_add, List.length_append, and_true, true_and, AV.flat, *, -hK, -hm] | with_reducible refine IfB_dec (fun h => ?_) (fun h => ?_) | with_reducible refine Guard_dec (fun h => ?_) (fun h => ?_) | with_reducible refine Guard_ndec (fun h => ?_) (fun h => ?_) | with_reducible refine Guard_not (fun h => ?_) (fun h => ?_) | with_reducible refine IfB_ndec (fun h => ?_) (fun h => ?_) | with_reducible refine IfB_not (fun h => ?_) (fun h => ?_) | with_reducible refine Guard_split (fun h => ?_) (fun h => ?_) | with_reducible refine IfB_split (fun h => ?_) (fun h => ?_))
    refine WX_rows hT hmix [(0, none), (2, none), (1, some [false, true]), (3, none), (4, none), (5, none), (6, none), (7, some [true, true, true, true, true, true, true]), (8, none), (9, none)] (by kernel_rfl) ?_
    repeat' (first | simp only [go_sem, Nat.reduceLT, Nat.reduceEqDiff, Nat.reduceAdd, Nat.reduceMul, Nat.reduceSub, Nat.reduceLeDiff, Int.reduceToNat, Int.reduceNeg, Int.reduceLT, Int.reduceLE, Int.reduceEq, reduceCtorEq, Int.natCast_zero, Int.natCast_one, Int.cast_ofNat_Int, Bool.not_not, false_eq_decide, true_eq_decide, hread0, hreadk, read_cons0, read_consk, astore_h0, astore_hk, hget0, hgetk, hset0, hsetk, hlen, hcat, Nat.add_assoc, Nat.add_zero, Nat.zero_add, List.length_append, and_true, true_and, AV.flat, *, -hK, -bs, -ts, -hm] | refine WC.call (bs _) ?_ | refine WC.call (ts _) ?_ | refine WC.call (refItem_spec _ _ _ _ _ _) ?_ | refine WC.call (refKey_spec _ _) ?_ | with_reducible refine IfB_dec (fun h => ?_) (fun h => ?_) | with_reducible refine Guard_dec (fun h => ?_) (fun h => ?_) | with_reducible refine Guard_ndec (fun h => ?_) (fun h => ?_) | with_reducible refine Guard_not (fun h => ?_) (fun h => ?_) | with_reducible refine IfB_ndec (fun h => ?_) (fun h => ?_) | with_reducible refine IfB_not (fun h => ?_) (fun h => ?_) | with_reducible refine Guard_split (fun h => ?_) (fun h => ?_) | with_reducible refine IfB_split (fun h => ?_) (fun h => ?_))
    all_goals
      refine hK _ _ (Thaw.of_eq ?_ rfl) (Keep.app _ _ _)
      clear hK
      congr 1
      rw [Bool.eq_iff_iff, hm]
      clear hm bs ts
      simp only [keyB, decide_eq_true_eq, decide_eq_false_iff_not, Bool.false_eq_true, false_iff, true_iff, true_and] at *
      omega
  by_cases k5 : kind = 5
  · subst k5
    simp only [Int.reduceEq, if_true, if_false] at hm
    refine WC_of_body hT Try.func63 rfl (by simp [Try.f63]) (by simp [Try.f63]) (wx_sound hT _ ?_)
    simp only [Try.f63]
    repeat' (first | simp only [go_sem, Nat.reduceLT, Nat.reduceEqDiff, Nat.reduceAdd, Nat.reduceMul, Nat.reduceSub, Nat.reduceLeDiff, Int.reduceToNat, Int.reduceNeg, Int.reduceLT, Int.reduceLE, Int.reduceEq, reduceCtorEq, Int.natCast_zero, Int.natCast_one, Int.cast_ofNat_Int, Bool.not_not, false_eq_decide, true_eq_decide, hread0, hreadk, read_cons0, read_consk, astore_h0, astore_hk, hget0, hgetk, hset0, hsetk, hlen, hcat, Nat.add_assoc, Nat.add_zero, Nat.zero_add, List.length_append, and_true, true_and, AV.flat, *, -hK, -hm] | with_reducible refine IfB_dec (fun h => ?_) (fun h => ?_) | with_reducible refine Guard_dec (fun h => ?_) (fun h => ?_) | with_reducible refine Guard_ndec (fun h => ?_) (fun h => ?_) | with_reducible refine Guard_not (fun h => ?_) (fun h => ?_) | with_reducible refine IfB_ndec (fun h => ?_) (fun h => ?_) | with_reducible refine IfB_not (fun h => ?_) (fun h => ?_) | with_reducible refine Guard_split (fun h => ?_) (fun h => ?_) | with_reducible refine IfB_split (fun h => ?_) (fun h => ?_))
    refine WX_rows hT hmix [(0, none), (2, none), (1, some [false, true]), (3, none), (4, none), (5, none), (6, none), (7, some [true, true, true, true, true, true, true]), (8, none), (9, none)] (by kernel_rfl) ?_
    repeat' (first | simp only [go_sem, Nat.reduceLT, Nat.reduceEqDiff, Nat.reduceAdd, Nat.reduceMul, Nat.reduceSub, Nat.reduceLeDiff, Int.reduceToNat, Int.reduceNeg, Int.reduceLT, Int.reduceLE, Int.reduceEq, reduceCtorEq, Int.natCast_zero, Int.natCast_one, Int.cast_ofNat_Int, Bool.not_not, false_eq_decide, true_eq_decide, hread0, hreadk, read_cons0, read_consk, astore_h0, astore_hk, hget0, hgetk, hset0, hsetk, hlen, hcat, Nat.add_assoc, Nat.add_zero, Nat.zero_add, List.length_append, and_true, true_and, AV.flat, *, -hK, -bs, -ts, -hm] | refine WC.call (bs _) ?_ | refine WC.call (ts _) ?_ | refine WC.call (refItem_spec _ _ _ _ _ _) ?_ | refine WC.call (refKey_spec _ _) ?_ | with_reducible refine IfB_dec (fun h => ?_) (fun h => ?_) | with_reducible refine Guard_dec (fun h => ?_) (fun h => ?_) | with_reducible refine Guard_ndec (fun h => ?_) (fun h => ?_) | with_reducible refine Guard_not (fun h => ?_) (fun h => ?_) | with_reducible refine IfB_ndec (fun h => ?_) (fun h => ?_) | with_reducible refine IfB_not (fun h => ?_) (fun h => ?_) | with_reducible refine Guard_split (fun h => ?_) (fun h => ?_) | with_reducible refine IfB_split (fun h => ?_) (fun h => ?_))
    all_goals
      refine hK _ _ (Thaw.of_eq ?_ rfl) (Keep.app _ _ _)
      clear hK
      congr 1
      rw [Bool.eq_iff_iff, hm]
      clear hm bs ts
      simp only [keyB, decide_eq_true_eq, decide_eq_false_iff_not, Bool.false_eq_true, false_iff, true_iff, true_and] at *
      omega
  by_cases k6 : kind = 6
  · subst k6
    simp only [Int.reduceEq, if_true, if_false] at hm
    refine WC_of_body hT Try.func63 rfl (by simp [Try.f63]) (by simp [Try.f63]) (wx_sound hT _ ?_)
    simp only [Try.f63]
    repeat' (first | simp only [go_sem, Nat.reduceLT, Nat.reduceEqDiff, Nat.reduceAdd, Nat.reduceMul, Nat.reduceSub, Nat.reduceLeDiff, Int.reduceToNat, Int.reduceNeg, Int.reduceLT, Int.reduceLE, Int.reduceEq, reduceCtorEq, Int.natCast_zero, Int.natCast_one, Int.cast_ofNat_Int, Bool.not_not, false_eq_decide, true_eq_decide, hread0, hreadk, read_cons0, read_consk, astore_h0, astore_hk, hget0, hgetk, hset0, hsetk, hlen, hcat, Nat.add_assoc, Nat.add_zero, Nat.zero_add, List.length_append, and_true, true_and, AV.flat, *, -hK, -hm] | with_reducible refine IfB_dec (fun h => ?_) (fun h => ?_) | with_reducible refine Guard_dec (fun h => ?_) (fun h => ?_) | with_reducible refine Guard_ndec (fun h => ?_) (fun h => ?_) | with_reducible refine Guard_not (fun h => ?_) (fun h => ?_) | with_reducible refine IfB_ndec (fun h => ?_) (fun h => ?_) | with_reducible refine IfB_not (fun h => ?_) (fun h => ?_) | with_reducible refine Guard_split (fun h => ?_) (fun h => ?_) | with_reducible refine IfB_split (fun h => ?_) (fun h => ?_))
    refine WX_rows hT hmix [(0, none), (2, none), (1, some [false, true]), (3, none), (4, none), (5, none), (6, none), (7, some [true, true, true, true, true, true, true]), (8, none), (9, none)] (by kernel_rfl) ?_
    repeat' (first | simp only [go_sem, Nat.reduceLT, Nat.reduceEqDiff, Nat.reduceAdd, Nat.reduceMul, Nat.reduceSub, Nat.reduceLeDiff, Int.reduceToNat, Int.reduceNeg, Int.reduceLT, Int.reduceLE, Int.reduceEq, reduceCtorEq, Int.natCast_zero, Int.natCast_one, Int.cast_ofNat_Int, Bool.not_not, false_eq_decide, true_eq_decide, hread0, hreadk, read_cons0, read_consk, astore_h0, astore_hk, hget0, hgetk, hset0, hsetk, hlen, hcat, Nat.add_assoc, Nat.add_zero, Nat.zero_add, List.length_append, and_true, true_and, AV.flat, *, -hK, -bs, -ts, -hm] | refine WC.call (bs _) ?_ | refine WC.call (ts _) ?_ | refine WC.call (refItem_spec _ _ _ _ _ _) ?_ | refine WC.call (refKey_spec _ _) ?_ | with_reducible refine IfB_dec (fun h => ?_) (fun h => ?_) | with_reducible refine Guard_dec (fun h => ?_) (fun h => ?_) | with_reducible refine Guard_ndec (fun h => ?_) (fun h => ?_) | with_reducible refine Guard_not (fun h => ?_) (fun h => ?_) | with_reducible refine IfB_ndec (fun h => ?_) (fun h => ?_) | with_reducible refine IfB_not (fun h => ?_) (fun h => ?_) | with_reducible refine Guard_split (fun h => ?_) (fun h => ?_) | with_reducible refine IfB_split (fun h => ?_) (fun h => ?_))
    all_goals
      refine hK _ _ (Thaw.of_eq ?_ rfl) (Keep.app _ _ _)
      clear hK
      congr 1
      rw [Bool.eq_iff_iff, hm]
      clear hm bs ts
      simp only [keyB, decide_eq_true_eq, decide_eq_false_iff_not, Bool.false_eq_true, false_iff, true_iff, true_and] at *
      omega
  by_cases k7 : kind = 7
  · subst k7
    simp only [Int.reduceEq, if_true, if_false] at hm
    refine WC_of_body hT Try.func63 rfl (by simp [Try.f63]) (by simp [Try.f63]) (wx_sound hT _ ?_)
    simp only [Try.f63]
    repeat' (first | simp only [go_sem, Nat.reduceLT, Nat.reduceEqDiff, Nat.reduceAdd, Nat.reduceMul, Nat.reduceSub, Nat.reduceLeDiff, Int.reduceToNat, Int.reduceNeg, Int.reduceLT, Int.reduceLE, Int.reduceEq, reduceCtorEq, Int.natCast_zero, Int.natCast_one, Int.cast_ofNat_Int, Bool.not_not, false_eq_decide, true_eq_decide, hread0, hreadk, read_cons0, read_consk, astore_h0, astore_hk, hget0, hgetk, hset0, hsetk, hlen, hcat, Nat.add_assoc, Nat.add_zero, Nat.zero_add, List.length_append, and_true, true_and, AV.flat, *, -hK, -hm] | with_reducible refine IfB_dec (fun h => ?_) (fun h => ?_) | with_reducible refine Guard_dec (fun h => ?_) (fun h => ?_) | with_reducible refine Guard_ndec (fun h => ?_) (fun h => ?_) | with_reducible refine Guard_not (fun h => ?_) (fun h => ?_) | with_reducible refine IfB_ndec (fun h => ?_) (fun h => ?_) | with_reducible refine IfB_not (fun h => ?_) (fun h => ?_) | with_reducible refine Guard_split (fun h => ?_) (fun h => ?_) | with_reducible refine IfB_split (fun h => ?_) (fun h => ?_))
    refine WX_rows hT hmix [(0, none), (2, none), (1, some [false, true]), (3, none), (4, none), (5, none), (6, none), (7, some [true, true, true, true, true, true, true]), (8, none), (9, none)] (by kernel_rfl) ?_
    repeat' (first | simp only [go_sem, Nat.reduceLT, Nat.reduceEqDiff, Nat.reduceAdd, Nat.reduceMul, Nat.reduceSub, Nat.reduceLeDiff, Int.reduceToNat, Int.reduceNeg, Int.reduceLT, Int.reduceLE, Int.reduceEq, reduceCtorEq, Int.natCast_zero, Int.natCast_one, Int.cast_ofNat_Int, Bool.not_not, false_eq_decide, true_eq_decide, hread0, hreadk, read_cons0, read_consk, astore_h0, astore_hk, hget0, hgetk, hset0, hsetk, hlen, hcat, Nat.add_assoc, Nat.add_zero, Nat.zero_add, List.length_append, and_true, true_and, AV.flat, *, -hK, -bs, -ts, -hm] | refine WC.call (bs _) ?_ | refine WC.call (ts _) ?_ | refine WC.call (refItem_spec _ _ _ _ _ _) ?_ | refine WC.call (refKey_spec _ _) ?_ | with_reducible refine IfB_dec (fun h => ?_) (fun h => ?_) | with_reducible refine Guard_dec (fun h => ?_) (fun h => ?_) | with_reducible refine Guard_ndec (fun h => ?_) (fun h => ?_) | with_reducible refine Guard_not (fun h => ?_) (fun h => ?_) | with_reducible refine IfB_ndec (fun h => ?_) (fun h => ?_) | with_reducible refine IfB_not (fun h => ?_) (fun h => ?_) | with_reducible refine Guard_split (fun h => ?_) (fun h => ?_) | with_reducible refine IfB_split (fun h => ?_) (fun h => ?_))
    all_goals
      refine hK _ _ (Thaw.of_eq ?_ rfl) (Keep.app _ _ _)
      clear hK
      congr 1
      rw [Bool.eq_iff_iff, hm]
      clear hm bs ts
      simp only [keyB, decide_eq_true_eq, decide_eq_false_iff_not, Bool.false_eq_true, false_iff, true_iff, true_and] at *
      omega
  rw [if_neg k1, if_neg k2, if_neg k3, if_neg k4, if_neg k5, if_neg k6, if_neg k7] at hm
  rw [Bool.eq_false_iff.2 (fun h => (hm.1 h).1)] at hK
  clear hm
  refine WC_of_body hT Try.func63 rfl (by simp [Try.f63]) (by simp [Try.f63]) (wx_sound hT _ ?_)
  simp only [Try.f63]
  repeat' (first | simp only [go_sem, Nat.reduceLT, Nat.reduceEqDiff, Nat.reduceAdd, Nat.reduceMul, Nat.reduceSub, Nat.reduceLeDiff, Int.reduceToNat, Int.reduceNeg, Int.reduceLT, Int.reduceLE, Int.reduceEq, reduceCtorEq, Int.natCast_zero, Int.natCast_one, Int.cast_ofNat_Int, Bool.not_not, false_eq_decide, true_eq_decide, hread0, hreadk, read_cons0, read_consk, astore_h0, astore_hk, hget0, hgetk, hset0, hsetk, hlen, hcat, Nat.add_assoc, Nat.add_zero, Nat.zero_add, List.length_append, and_true, true_and, AV.flat, *, -hK, -bs, -ts] | with_reducible refine IfB_dec (fun h => ?_) (fun h => ?_) | with_reducible refine Guard_dec (fun h => ?_) (fun h => ?_) | with_reducible refine Guard_ndec (fun h => ?_) (fun h => ?_) | with_reducible refine Guard_not (fun h => ?_) (fun h => ?_) | with_reducible refine IfB_ndec (fun h => ?_) (fun h => ?_) | with_reducible refine IfB_not (fun h => ?_) (fun h => ?_) | with_reducible refine Guard_split (fun h => ?_) (fun h => ?_) | with_reducible refine IfB_split (fun h => ?_) (fun h => ?_))
  refine WX_rows hT hmix [(0, none), (2, none), (1, some [false, true]), (3, none), (4, none), (5, none), (6, none), (7, some [true, true, true, true, true, true, true]), (8, none), (9, none)] (by kernel_rfl) ?_
  repeat' (first | simp only [go_sem, Nat.reduceLT, Nat.reduceEqDiff, Nat.reduceAdd, Nat.reduceMul, Nat.reduceSub, Nat.reduceLeDiff, Int.reduceToNat, Int.reduceNeg, Int.reduceLT, Int.reduceLE, Int.reduceEq, reduceCtorEq, Int.natCast_zero, Int.natCast_one, Int.cast_ofNat_Int, Bool.not_not, false_eq_decide, true_eq_decide, hread0, hreadk, read_cons0, read_consk, astore_h0, astore_hk, hget0, hgetk, hset0, hsetk, hlen, hcat, Nat.add_assoc, Nat.add_zero, Nat.zero_add, List.length_append, and_true, true_and, AV.flat, *, -hK, -bs, -ts] | refine WC.call (bs _) ?_ | refine WC.call (ts _) ?_ | with_reducible refine IfB_dec (fun h => ?_) (fun h => ?_) | with_reducible refine Guard_dec (fun h => ?_) (fun h => ?_) | with_reducible refine Guard_ndec (fun h => ?_) (fun h => ?_) | with_reducible refine Guard_not (fun h => ?_) (fun h => ?_) | with_reducible refine IfB_ndec (fun h => ?_) (fun h => ?_) | with_reducible refine IfB_not (fun h => ?_) (fun h => ?_) | with_reducible refine Guard_split (fun h => ?_) (fun h => ?_) | with_reducible refine IfB_split (fun h => ?_) (fun h => ?_))
  all_goals exact hK _ _ (.bool _) (Keep.app _ _ _)
/-! ### the document: an item's bytes -/
def itemL (a b : List UInt8) (f d u : Int) : List UInt8 := textL a ++ (textL b ++ (small f.toNat ++ (small d.toNat ++ small u.toNat)))
theorem itemBytes_spec (a b : List UInt8) (f d u : Int) (ha : a.length ≤ 32) (hb : b.length ≤ 512) (hf : 0 ≤ f ∧ f < 4294967296) (hd : 0 ≤ d ∧ d ≤ 1099511627776) (hu : 0 ≤ u ∧ u < 18446744073709551616) (H : Heap) :
    WC Try.prog 73 [.agg [.str a, .str b, .int .u32 f, .int .i64 d, .int .u64 u]] H fun r H' => r = Enc.u8.lst (itemL a b f d u) ∧ H' = H := by
  refine WC_froze (Q := fun r => r = _) (WC.mono (Q := fun r H' => Ob H.length H' r (itemL a b f d u) ∧ Keep none H H') ?_ fun r H' ⟨h1, h2⟩ => ⟨_, Thaw.ob h1, h2, rfl⟩)
  refine WC_of_K fun K hK => ?_
  have ta := textL_len (s := a) (by omega)
  have tb := textL_len (s := b) (by omega)
  have sf := small_len10 (n := f.toNat) (by omega)
  have sd := small_len10 (n := d.toNat) (by omega)
  have sb := fun J => refTextP b (by omega) J
  have wf : IntKind.u64.wrap f = f := u64w_id hf.1 (by omega)
  have s1 := fun J => refSmallP f hf.1 (by omega) J
  have s2 := fun J => refSmallP u hu.1 hu.2 J
  refine WC_of_body hT Try.func73 rfl (by simp [Try.f73]) (by simp [Try.f73]) (wx_sound hT _ ?_)
  simp only [Try.f73]
  repeat' (first | simp only [go_sem, Nat.reduceLT, Nat.reduceEqDiff, Nat.reduceAdd, Nat.reduceMul, Nat.reduceSub, Nat.reduceLeDiff, Int.reduceToNat, Int.reduceNeg, Int.reduceLT, Int.reduceLE, Int.reduceEq, reduceCtorEq, Int.natCast_zero, Int.natCast_one, Int.cast_ofNat_Int, Bool.not_not, false_eq_decide, true_eq_decide, hread0, hreadk, read_cons0, read_consk, astore_h0, astore_hk, hget0, hgetk, hset0, hsetk, hlen, hcat, Nat.add_assoc, Nat.add_zero, Nat.zero_add, List.length_append, and_true, true_and, AV.flat, *, -hK, -ta, -tb, -sf, -sd, -sb, -s1, -s2] | with_reducible refine IfB_dec (fun h => ?_) (fun h => ?_) | with_reducible refine Guard_dec (fun h => ?_) (fun h => ?_) | with_reducible refine Guard_ndec (fun h => ?_) (fun h => ?_) | with_reducible refine Guard_not (fun h => ?_) (fun h => ?_) | with_reducible refine IfB_ndec (fun h => ?_) (fun h => ?_) | with_reducible refine IfB_not (fun h => ?_) (fun h => ?_) | with_reducible refine Guard_split (fun h => ?_) (fun h => ?_) | with_reducible refine IfB_split (fun h => ?_) (fun h => ?_))
  refine (refText_spec a (by omega) _).mono ?_
  rintro r1 H1 ⟨o1, k1⟩
  have hb1 := k1.get (b := H.length) (B := ⟨[.str a, .str b, .int .u32 f, .int .i64 d, .int .u64 u], 0, .full⟩) (by rw [hget0]; rfl) (by simp)
  simp only [List.length_append, List.length_cons, List.length_nil] at o1
  have hl1 := k1.len
  simp only [List.length_append, List.length_cons, List.length_nil] at hl1
  repeat' (first | simp only [go_sem, Nat.reduceLT, Nat.reduceEqDiff, Nat.reduceAdd, Nat.reduceMul, Nat.reduceSub, Nat.reduceLeDiff, Int.reduceToNat, Int.reduceNeg, Int.reduceLT, Int.reduceLE, Int.reduceEq, reduceCtorEq, Int.natCast_zero, Int.natCast_one, Int.cast_ofNat_Int, Bool.not_not, false_eq_decide, true_eq_decide, hread0, hreadk, read_cons0, read_consk, astore_h0, astore_hk, hget0, hgetk, hset0, hsetk, hlen, hcat, Nat.add_assoc, Nat.add_zero, Nat.zero_add, List.length_append, and_true, true_and, AV.flat, hb1, get_app hb1, read_get hb1, read_app hb1, *, -hK, -ta, -tb, -sf, -sd, -sb, -s1, -s2, -k1, -o1] | refine WC.call (sb _) ?_ | with_reducible refine IfB_dec (fun h => ?_) (fun h => ?_) | with_reducible refine Guard_dec (fun h => ?_) (fun h => ?_) | with_reducible refine Guard_ndec (fun h => ?_) (fun h => ?_) | with_reducible refine Guard_not (fun h => ?_) (fun h => ?_) | with_reducible refine IfB_ndec (fun h => ?_) (fun h => ?_) | with_reducible refine IfB_not (fun h => ?_) (fun h => ?_) | with_reducible refine Guard_split (fun h => ?_) (fun h => ?_) | with_reducible refine IfB_split (fun h => ?_) (fun h => ?_))
  refine append_gr (m := H.length + 1) o1 se59 az5 td5 rfl (u8_src tk59) (by omega) (by omega) ?_
  intro r2 H2 g2
  have hb2 := g2.keep.get hb1 (o1.ne (by omega))
  have hl2 := g2.keep.len
  repeat' (first | simp only [go_sem, Nat.reduceLT, Nat.reduceEqDiff, Nat.reduceAdd, Nat.reduceMul, Nat.reduceSub, Nat.reduceLeDiff, Int.reduceToNat, Int.reduceNeg, Int.reduceLT, Int.reduceLE, Int.reduceEq, reduceCtorEq, Int.natCast_zero, Int.natCast_one, Int.cast_ofNat_Int, Bool.not_not, false_eq_decide, true_eq_decide, hread0, hreadk, read_cons0, read_consk, astore_h0, astore_hk, hget0, hgetk, hset0, hsetk, hlen, hcat, Nat.add_assoc, Nat.add_zero, Nat.zero_add, List.length_append, and_true, true_and, AV.flat, hb2, get_app hb2, read_get hb2, read_app hb2, *, -hK, -ta, -tb, -sf, -sd, -sb, -s1, -s2, -k1, -o1] | refine WC.call (s1 _) ?_ | with_reducible refine IfB_dec (fun h => ?_) (fun h => ?_) | with_reducible refine Guard_dec (fun h => ?_) (fun h => ?_) | with_reducible refine Guard_ndec (fun h => ?_) (fun h => ?_) | with_reducible refine Guard_not (fun h => ?_) (fun h => ?_) | with_reducible refine IfB_ndec (fun h => ?_) (fun h => ?_) | with_reducible refine IfB_not (fun h => ?_) (fun h => ?_) | with_reducible refine Guard_split (fun h => ?_) (fun h => ?_) | with_reducible refine IfB_split (fun h => ?_) (fun h => ?_))
  refine append_gr (m := H.length + 1) g2.own se59 az5 td5 rfl (u8_src tk59) (by simp only [List.length_append]; omega) (by omega) ?_
  intro r3 H3 g3
  have hb3 := g3.keep.get hb2 (g2.own.ne (by omega))
  have hl3 := g3.keep.len
  repeat' (first | simp only [go_sem, Nat.reduceLT, Nat.reduceEqDiff, Nat.reduceAdd, Nat.reduceMul, Nat.reduceSub, Nat.reduceLeDiff, Int.reduceToNat, Int.reduceNeg, Int.reduceLT, Int.reduceLE, Int.reduceEq, reduceCtorEq, Int.natCast_zero, Int.natCast_one, Int.cast_ofNat_Int, Bool.not_not, false_eq_decide, true_eq_decide, hread0, hreadk, read_cons0, read_consk, astore_h0, astore_hk, hget0, hgetk, hset0, hsetk, hlen, hcat, Nat.add_assoc, Nat.add_zero, Nat.zero_add, List.length_append, and_true, true_and, AV.flat, hb3, get_app hb3, read_get hb3, read_app hb3, *, -hK, -ta, -tb, -sf, -sd, -sb, -s1, -s2, -k1, -o1] | with_reducible refine IfB_dec (fun h => ?_) (fun h => ?_) | with_reducible refine Guard_dec (fun h => ?_) (fun h => ?_) | with_reducible refine Guard_ndec (fun h => ?_) (fun h => ?_) | with_reducible refine Guard_not (fun h => ?_) (fun h => ?_) | with_reducible refine IfB_ndec (fun h => ?_) (fun h => ?_) | with_reducible refine IfB_not (fun h => ?_) (fun h => ?_) | with_reducible refine Guard_split (fun h => ?_) (fun h => ?_) | with_reducible refine IfB_split (fun h => ?_) (fun h => ?_))
  refine (refNums_spec _ [d] (H3 ++ [(⟨[.int .i64 d], 1, .full⟩ : Blk)]) (get_vs (by rw [hget0]; rfl) rfl rfl) (by simp)).mono ?_
  rintro r4 H4 ⟨o4, k4⟩
  have n4 : numsL [d] = small d.toNat := num1 hd.1 (by omega)
  rw [n4] at o4
  have k34 := (Keep.app none H3 [(⟨[.int .i64 d], 1, .full⟩ : Blk)]).trans k4
  have hb4 := k34.get hb3 (by simp)
  have hl4 := k34.len
  repeat' (first | simp only [go_sem, Nat.reduceLT, Nat.reduceEqDiff, Nat.reduceAdd, Nat.reduceMul, Nat.reduceSub, Nat.reduceLeDiff, Int.reduceToNat, Int.reduceNeg, Int.reduceLT, Int.reduceLE, Int.reduceEq, reduceCtorEq, Int.natCast_zero, Int.natCast_one, Int.cast_ofNat_Int, Bool.not_not, false_eq_decide, true_eq_decide, hread0, hreadk, read_cons0, read_consk, astore_h0, astore_hk, hget0, hgetk, hset0, hsetk, hlen, hcat, Nat.add_assoc, Nat.add_zero, Nat.zero_add, List.length_append, and_true, true_and, AV.flat, hb4, get_app hb4, read_get hb4, read_app hb4, *, -hK, -ta, -tb, -sf, -sd, -sb, -s1, -s2, -k1, -o1, -o4, -n4, -k34] | with_reducible refine IfB_dec (fun h => ?_) (fun h => ?_) | with_reducible refine Guard_dec (fun h => ?_) (fun h => ?_) | with_reducible refine Guard_ndec (fun h => ?_) (fun h => ?_) | with_reducible refine Guard_not (fun h => ?_) (fun h => ?_) | with_reducible refine IfB_ndec (fun h => ?_) (fun h => ?_) | with_reducible refine IfB_not (fun h => ?_) (fun h => ?_) | with_reducible refine Guard_split (fun h => ?_) (fun h => ?_) | with_reducible refine IfB_split (fun h => ?_) (fun h => ?_))
  refine append_gr (m := H.length + 1) (g3.own.keep0 k34) se59 az5 td5 rfl (o4.bs.src tk59) (by simp only [List.length_append]; omega) (by omega) ?_
  intro r5 H5 g5
  have hb5 := g5.keep.get hb4 ((g3.own.keep0 k34).ne (by omega))
  have hl5 := g5.keep.len
  repeat' (first | simp only [go_sem, Nat.reduceLT, Nat.reduceEqDiff, Nat.reduceAdd, Nat.reduceMul, Nat.reduceSub, Nat.reduceLeDiff, Int.reduceToNat, Int.reduceNeg, Int.reduceLT, Int.reduceLE, Int.reduceEq, reduceCtorEq, Int.natCast_zero, Int.natCast_one, Int.cast_ofNat_Int, Bool.not_not, false_eq_decide, true_eq_decide, hread0, hreadk, read_cons0, read_consk, astore_h0, astore_hk, hget0, hgetk, hset0, hsetk, hlen, hcat, Nat.add_assoc, Nat.add_zero, Nat.zero_add, List.length_append, and_true, true_and, AV.flat, hb5, get_app hb5, read_get hb5, read_app hb5, *, -hK, -ta, -tb, -sf, -sd, -sb, -s1, -s2, -k1, -o1, -o4, -n4, -k34] | refine WC.call (s2 _) ?_ | with_reducible refine IfB_dec (fun h => ?_) (fun h => ?_) | with_reducible refine Guard_dec (fun h => ?_) (fun h => ?_) | with_reducible refine Guard_ndec (fun h => ?_) (fun h => ?_) | with_reducible refine Guard_not (fun h => ?_) (fun h => ?_) | with_reducible refine IfB_ndec (fun h => ?_) (fun h => ?_) | with_reducible refine IfB_not (fun h => ?_) (fun h => ?_) | with_reducible refine Guard_split (fun h => ?_) (fun h => ?_) | with_reducible refine IfB_split (fun h => ?_) (fun h => ?_))
  refine append_gr (m := H.length + 1) g5.own se59 az5 td5 rfl (u8_src tk59) (by simp only [List.length_append]; have := small_len10 (n := u.toNat) (by omega); omega) (by omega) ?_
  intro r6 H6 g6
  have gA := (Grow.post (g2.trans g3) k34).trans (g5.trans g6)
  have gk := gA.keep0 (G := H) ((Keep.app none H _).trans k1) (fun b hb => by have := o1.ge hb; omega)
  repeat' (first | simp only [go_sem, Nat.reduceLT, Nat.reduceEqDiff, Nat.reduceAdd, Nat.reduceMul, Nat.reduceSub, Nat.reduceLeDiff, Int.reduceToNat, Int.reduceNeg, Int.reduceLT, Int.reduceLE, Int.reduceEq, reduceCtorEq, Int.natCast_zero, Int.natCast_one, Int.cast_ofNat_Int, Bool.not_not, false_eq_decide, true_eq_decide, hread0, hreadk, read_cons0, read_consk, astore_h0, astore_hk, hget0, hgetk, hset0, hsetk, hlen, hcat, Nat.add_assoc, Nat.add_zero, Nat.zero_add, List.length_append, and_true, true_and, AV.flat, *, -hK, -ta, -tb, -sf, -sd, -sb, -s1, -s2, -k1, -o1, -o4, -n4, -k34] | with_reducible refine IfB_dec (fun h => ?_) (fun h => ?_) | with_reducible refine Guard_dec (fun h => ?_) (fun h => ?_) | with_reducible refine Guard_ndec (fun h => ?_) (fun h => ?_) | with_reducible refine Guard_not (fun h => ?_) (fun h => ?_) | with_reducible refine IfB_ndec (fun h => ?_) (fun h => ?_) | with_reducible refine IfB_not (fun h => ?_) (fun h => ?_) | with_reducible refine Guard_split (fun h => ?_) (fun h => ?_) | with_reducible refine IfB_split (fun h => ?_) (fun h => ?_))
  refine hK _ _ ⟨?_, gk⟩
  have o6 := gA.own.mono (m' := H.length) (by omega)
  rw [show itemL a b f d u = textL a ++ textL b ++ small f.toNat ++ small d.toNat ++ small u.toNat by simp [itemL]]
  exact o6
/-! ### the document: a change's bytes -/
theorem one_spec (c : Chg) (ho : c.Ok) (hm : c.mayB = true) (H : Heap) : WC Try.prog 64 [c.av] H fun r H' => r = Enc.u8.lst c.putL ∧ H' = H := by
  refine WC_froze (Q := fun r => r = _) (WC.mono (Q := fun r H' => Ob H.length H' r c.putL ∧ Keep none H H') ?_ fun r H' ⟨h1, h2⟩ => ⟨_, Thaw.ob h1, h2, rfl⟩)
  refine WC_of_K fun K hK => ?_
  obtain ⟨h1, h2, h3, h4⟩ := may_facts ho hm
  have hkind : [AV.int .u8 c.kind] = byc [UInt8.ofNat c.kind.toNat] := by
    have := ho.kind; simp [byc]; omega
  have hwhy : [AV.int .u8 c.why] = byc [UInt8.ofNat c.why.toNat] := by
    have := ho.why; simp [byc]; omega
  have hif := ho.ifl
  have hu := ho.iuniq
  clear hm ho h3
  unfold Chg.goodP at h4
  obtain ⟨kind, ten, ikey, ival, ifl, idue, iuniq, key, why, to, prim⟩ := c
  unfold Chg.av
  simp only at *
  have n1 := num1 (x := ten) (by omega) (by omega)
  have s1 := small_len10 (n := ten.toNat) (by omega)
  by_cases k3 : kind = 3
  · subst k3
    clear hwhy
    simp only [Chg.putL, Int.reduceEq, if_true, if_false] at hK
    refine WC_of_body hT Try.func64 rfl (by simp [Try.f64]) (by simp [Try.f64]) (wx_sound hT _ ?_)
    simp only [Try.f64]
    repeat' (first | simp only [go_sem, Nat.reduceLT, Nat.reduceEqDiff, Nat.reduceAdd, Nat.reduceMul, Nat.reduceSub, Nat.reduceLeDiff, Int.reduceToNat, Int.reduceNeg, Int.reduceLT, Int.reduceLE, Int.reduceEq, reduceCtorEq, Int.natCast_zero, Int.natCast_one, Int.cast_ofNat_Int, Bool.not_not, false_eq_decide, true_eq_decide, hread0, hreadk, read_cons0, read_consk, astore_h0, astore_hk, hget0, hgetk, hset0, hsetk, hlen, hcat, Nat.add_assoc, Nat.add_zero, Nat.zero_add, List.length_append, and_true, true_and, AV.flat, *, -hK, -hkind, -n1, -s1] | with_reducible refine IfB_dec (fun h => ?_) (fun h => ?_) | with_reducible refine Guard_dec (fun h => ?_) (fun h => ?_) | with_reducible refine Guard_ndec (fun h => ?_) (fun h => ?_) | with_reducible refine Guard_not (fun h => ?_) (fun h => ?_) | with_reducible refine IfB_ndec (fun h => ?_) (fun h => ?_) | with_reducible refine IfB_not (fun h => ?_) (fun h => ?_) | with_reducible refine Guard_split (fun h => ?_) (fun h => ?_) | with_reducible refine IfB_split (fun h => ?_) (fun h => ?_))
    have o1 : Ob (H.length + 1) (H ++ [(⟨[.int .u8 3, .int .i64 ten, .str ikey, .str ival, .int .u32 ifl, .int .i64 idue, .int .u64 iuniq, .str key, .int .u8 why, .int .i64 to, .bool prim], 0, .full⟩ : Blk), ⟨[.int .u8 3], 1, .full⟩, ⟨[.int .i64 ten], 1, .full⟩]) (.sl (H.length + 1) 0 1 none) [UInt8.ofNat (Int.toNat 3)] := Own.whole (Nat.le_refl _) (by rw [hgetk, ← hkind]; rfl) rfl rfl
    refine (refNums_spec _ [ten] _ (get_vs (by rw [hgetk]; rfl) rfl rfl) (by simp)).mono ?_
    rintro r2 H2 ⟨o2, k2⟩
    have hb2 := k2.get (b := H.length) (B := ⟨[.int .u8 3, .int .i64 ten, .str ikey, .str ival, .int .u32 ifl, .int .i64 idue, .int .u64 iuniq, .str key, .int .u8 why, .int .i64 to, .bool prim], 0, .full⟩) (by rw [hget0]; rfl) (by simp)
    have hl2 := k2.len
    simp only [List.length_append, List.length_cons, List.length_nil] at hl2
    have oo := o1.keep0 k2
    have nl := numsL_len [ten]
    simp only [List.length_cons, List.length_nil] at nl
    repeat' (first | simp only [go_sem, Nat.reduceLT, Nat.reduceEqDiff, Nat.reduceAdd, Nat.reduceMul, Nat.reduceSub, Nat.reduceLeDiff, Int.reduceToNat, Int.reduceNeg, Int.reduceLT, Int.reduceLE, Int.reduceEq, reduceCtorEq, Int.natCast_zero, Int.natCast_one, Int.cast_ofNat_Int, Bool.not_not, false_eq_decide, true_eq_decide, hread0, hreadk, read_cons0, read_consk, astore_h0, astore_hk, hget0, hgetk, hset0, hsetk, hlen, hcat, Nat.add_assoc, Nat.add_zero, Nat.zero_add, List.length_append, and_true, true_and, AV.flat, hb2, get_app hb2, read_get hb2, read_app hb2, *, -hK, -hkind, -n1, -s1, -o1, -o2, -k2, -oo, -nl] | with_reducible refine IfB_dec (fun h => ?_) (fun h => ?_) | with_reducible refine Guard_dec (fun h => ?_) (fun h => ?_) | with_reducible refine Guard_ndec (fun h => ?_) (fun h => ?_) | with_reducible refine Guard_not (fun h => ?_) (fun h => ?_) | with_reducible refine IfB_ndec (fun h => ?_) (fun h => ?_) | with_reducible refine IfB_not (fun h => ?_) (fun h => ?_) | with_reducible refine Guard_split (fun h => ?_) (fun h => ?_) | with_reducible refine IfB_split (fun h => ?_) (fun h => ?_))
    refine append_gr (m := H.length + 1) oo se59 az5 td5 rfl (o2.bs.src tk59) (by simp only [List.length_cons, List.length_nil]; omega) (by omega) ?_
    intro r3 H3 g3
    have hb3 := g3.keep.get hb2 (oo.ne (by omega))
    have hl3 := g3.keep.len
    have o3 := g3.own
    have k3 : Keep none H H3 := g3.keep0 ((Keep.app none H _).trans k2) (fun b hb => by have := oo.ge hb; omega)
    clear g3 oo o1 o2 k2 hb2
    repeat' (first | simp only [go_sem, Nat.reduceLT, Nat.reduceEqDiff, Nat.reduceAdd, Nat.reduceMul, Nat.reduceSub, Nat.reduceLeDiff, Int.reduceToNat, Int.reduceNeg, Int.reduceLT, Int.reduceLE, Int.reduceEq, reduceCtorEq, Int.natCast_zero, Int.natCast_one, Int.cast_ofNat_Int, Bool.not_not, false_eq_decide, true_eq_decide, hread0, hreadk, read_cons0, read_consk, astore_h0, astore_hk, hget0, hgetk, hset0, hsetk, hlen, hcat, Nat.add_assoc, Nat.add_zero, Nat.zero_add, List.length_append, and_true, true_and, AV.flat, *, -hK, -hkind, -n1, -s1, -o3, -k3, -nl] | with_reducible refine IfB_dec (fun h => ?_) (fun h => ?_) | with_reducible refine Guard_dec (fun h => ?_) (fun h => ?_) | with_reducible refine Guard_ndec (fun h => ?_) (fun h => ?_) | with_reducible refine Guard_not (fun h => ?_) (fun h => ?_) | with_reducible refine IfB_ndec (fun h => ?_) (fun h => ?_) | with_reducible refine IfB_not (fun h => ?_) (fun h => ?_) | with_reducible refine Guard_split (fun h => ?_) (fun h => ?_) | with_reducible refine IfB_split (fun h => ?_) (fun h => ?_))
    have oE := o3.mono (m' := H.length) (by omega)
    refine hK _ _ ⟨?_, k3⟩
    refine cast (congrArg (Ob H.length _ _) ?_) oE
    rw [n1]; simp
  by_cases k4 : kind = 4
  · subst k4
    clear hwhy
    simp only [Chg.putL, Int.reduceEq, if_true, if_false] at hK h4
    refine WC_of_body hT Try.func64 rfl (by simp [Try.f64]) (by simp [Try.f64]) (wx_sound hT _ ?_)
    simp only [Try.f64]
    repeat' (first | simp only [go_sem, Nat.reduceLT, Nat.reduceEqDiff, Nat.reduceAdd, Nat.reduceMul, Nat.reduceSub, Nat.reduceLeDiff, Int.reduceToNat, Int.reduceNeg, Int.reduceLT, Int.reduceLE, Int.reduceEq, reduceCtorEq, Int.natCast_zero, Int.natCast_one, Int.cast_ofNat_Int, Bool.not_not, false_eq_decide, true_eq_decide, hread0, hreadk, read_cons0, read_consk, astore_h0, astore_hk, hget0, hgetk, hset0, hsetk, hlen, hcat, Nat.add_assoc, Nat.add_zero, Nat.zero_add, List.length_append, and_true, true_and, AV.flat, *, -hK, -hkind, -n1, -s1] | with_reducible refine IfB_dec (fun h => ?_) (fun h => ?_) | with_reducible refine Guard_dec (fun h => ?_) (fun h => ?_) | with_reducible refine Guard_ndec (fun h => ?_) (fun h => ?_) | with_reducible refine Guard_not (fun h => ?_) (fun h => ?_) | with_reducible refine IfB_ndec (fun h => ?_) (fun h => ?_) | with_reducible refine IfB_not (fun h => ?_) (fun h => ?_) | with_reducible refine Guard_split (fun h => ?_) (fun h => ?_) | with_reducible refine IfB_split (fun h => ?_) (fun h => ?_))
    have o1 : Ob (H.length + 1) (H ++ [(⟨[.int .u8 4, .int .i64 ten, .str ikey, .str ival, .int .u32 ifl, .int .i64 idue, .int .u64 iuniq, .str key, .int .u8 why, .int .i64 to, .bool prim], 0, .full⟩ : Blk), ⟨[.int .u8 4], 1, .full⟩, ⟨[.int .i64 to], 1, .full⟩]) (.sl (H.length + 1) 0 1 none) [UInt8.ofNat (Int.toNat 4)] := Own.whole (Nat.le_refl _) (by rw [hgetk, ← hkind]; rfl) rfl rfl
    refine (refNums_spec _ [to] _ (get_vs (by rw [hgetk]; rfl) rfl rfl) (by simp)).mono ?_
    rintro r2 H2 ⟨o2, k2⟩
    have hb2 := k2.get (b := H.length) (B := ⟨[.int .u8 4, .int .i64 ten, .str ikey, .str ival, .int .u32 ifl, .int .i64 idue, .int .u64 iuniq, .str key, .int .u8 why, .int .i64 to, .bool prim], 0, .full⟩) (by rw [hget0]; rfl) (by simp)
    have hl2 := k2.len
    simp only [List.length_append, List.length_cons, List.length_nil] at hl2
    have oo := o1.keep0 k2
    have nl := numsL_len [to]
    simp only [List.length_cons, List.length_nil] at nl
    repeat' (first | simp only [go_sem, Nat.reduceLT, Nat.reduceEqDiff, Nat.reduceAdd, Nat.reduceMul, Nat.reduceSub, Nat.reduceLeDiff, Int.reduceToNat, Int.reduceNeg, Int.reduceLT, Int.reduceLE, Int.reduceEq, reduceCtorEq, Int.natCast_zero, Int.natCast_one, Int.cast_ofNat_Int, Bool.not_not, false_eq_decide, true_eq_decide, hread0, hreadk, read_cons0, read_consk, astore_h0, astore_hk, hget0, hgetk, hset0, hsetk, hlen, hcat, Nat.add_assoc, Nat.add_zero, Nat.zero_add, List.length_append, and_true, true_and, AV.flat, hb2, get_app hb2, read_get hb2, read_app hb2, *, -hK, -hkind, -n1, -s1, -o1, -o2, -k2, -oo, -nl] | with_reducible refine IfB_dec (fun h => ?_) (fun h => ?_) | with_reducible refine Guard_dec (fun h => ?_) (fun h => ?_) | with_reducible refine Guard_ndec (fun h => ?_) (fun h => ?_) | with_reducible refine Guard_not (fun h => ?_) (fun h => ?_) | with_reducible refine IfB_ndec (fun h => ?_) (fun h => ?_) | with_reducible refine IfB_not (fun h => ?_) (fun h => ?_) | with_reducible refine Guard_split (fun h => ?_) (fun h => ?_) | with_reducible refine IfB_split (fun h => ?_) (fun h => ?_))
    refine append_gr (m := H.length + 1) oo se59 az5 td5 rfl (o2.bs.src tk59) (by simp only [List.length_cons, List.length_nil]; omega) (by omega) ?_
    intro r3 H3 g3
    have hb3 := g3.keep.get hb2 (oo.ne (by omega))
    have hl3 := g3.keep.len
    have o3 := g3.own
    have k3 : Keep none H H3 := g3.keep0 ((Keep.app none H _).trans k2) (fun b hb => by have := oo.ge hb; omega)
    clear g3 oo o1 o2 k2 hb2
    repeat' (first | simp only [go_sem, Nat.reduceLT, Nat.reduceEqDiff, Nat.reduceAdd, Nat.reduceMul, Nat.reduceSub, Nat.reduceLeDiff, Int.reduceToNat, Int.reduceNeg, Int.reduceLT, Int.reduceLE, Int.reduceEq, reduceCtorEq, Int.natCast_zero, Int.natCast_one, Int.cast_ofNat_Int, Bool.not_not, false_eq_decide, true_eq_decide, hread0, hreadk, read_cons0, read_consk, astore_h0, astore_hk, hget0, hgetk, hset0, hsetk, hlen, hcat, Nat.add_assoc, Nat.add_zero, Nat.zero_add, List.length_append, and_true, true_and, AV.flat, *, -hK, -hkind, -n1, -s1, -o3, -k3, -nl] | with_reducible refine IfB_dec (fun h => ?_) (fun h => ?_) | with_reducible refine Guard_dec (fun h => ?_) (fun h => ?_) | with_reducible refine Guard_ndec (fun h => ?_) (fun h => ?_) | with_reducible refine Guard_not (fun h => ?_) (fun h => ?_) | with_reducible refine IfB_ndec (fun h => ?_) (fun h => ?_) | with_reducible refine IfB_not (fun h => ?_) (fun h => ?_) | with_reducible refine Guard_split (fun h => ?_) (fun h => ?_) | with_reducible refine IfB_split (fun h => ?_) (fun h => ?_))
    have oE := o3.mono (m' := H.length) (by omega)
    refine hK _ _ ⟨?_, k3⟩
    refine cast (congrArg (Ob H.length _ _) ?_) oE
    rw [num1 (x := to) (by omega) (by omega)]; simp
  by_cases k7 : kind = 7
  · subst k7
    clear hwhy
    simp only [Chg.putL, Int.reduceEq, if_true, if_false] at hK h4
    refine WC_of_body hT Try.func64 rfl (by simp [Try.f64]) (by simp [Try.f64]) (wx_sound hT _ ?_)
    simp only [Try.f64]
    repeat' (first | simp only [go_sem, Nat.reduceLT, Nat.reduceEqDiff, Nat.reduceAdd, Nat.reduceMul, Nat.reduceSub, Nat.reduceLeDiff, Int.reduceToNat, Int.reduceNeg, Int.reduceLT, Int.reduceLE, Int.reduceEq, reduceCtorEq, Int.natCast_zero, Int.natCast_one, Int.cast_ofNat_Int, Bool.not_not, false_eq_decide, true_eq_decide, hread0, hreadk, read_cons0, read_consk, astore_h0, astore_hk, hget0, hgetk, hset0, hsetk, hlen, hcat, Nat.add_assoc, Nat.add_zero, Nat.zero_add, List.length_append, and_true, true_and, AV.flat, *, -hK, -hkind, -n1, -s1] | with_reducible refine IfB_dec (fun h => ?_) (fun h => ?_) | with_reducible refine Guard_dec (fun h => ?_) (fun h => ?_) | with_reducible refine Guard_ndec (fun h => ?_) (fun h => ?_) | with_reducible refine Guard_not (fun h => ?_) (fun h => ?_) | with_reducible refine IfB_ndec (fun h => ?_) (fun h => ?_) | with_reducible refine IfB_not (fun h => ?_) (fun h => ?_) | with_reducible refine Guard_split (fun h => ?_) (fun h => ?_) | with_reducible refine IfB_split (fun h => ?_) (fun h => ?_))
    have o1 : Ob (H.length + 1) (H ++ [(⟨[.int .u8 7, .int .i64 ten, .str ikey, .str ival, .int .u32 ifl, .int .i64 idue, .int .u64 iuniq, .str key, .int .u8 why, .int .i64 to, .bool prim], 0, .full⟩ : Blk), ⟨[.int .u8 7], 1, .full⟩, ⟨[.int .i64 to], 1, .full⟩]) (.sl (H.length + 1) 0 1 none) [UInt8.ofNat (Int.toNat 7)] := Own.whole (Nat.le_refl _) (by rw [hgetk, ← hkind]; rfl) rfl rfl
    refine (refNums_spec _ [to] _ (get_vs (by rw [hgetk]; rfl) rfl rfl) (by simp)).mono ?_
    rintro r2 H2 ⟨o2, k2⟩
    have hb2 := k2.get (b := H.length) (B := ⟨[.int .u8 7, .int .i64 ten, .str ikey, .str ival, .int .u32 ifl, .int .i64 idue, .int .u64 iuniq, .str key, .int .u8 why, .int .i64 to, .bool prim], 0, .full⟩) (by rw [hget0]; rfl) (by simp)
    have hl2 := k2.len
    simp only [List.length_append, List.length_cons, List.length_nil] at hl2
    have oo := o1.keep0 k2
    have nl := numsL_len [to]
    simp only [List.length_cons, List.length_nil] at nl
    repeat' (first | simp only [go_sem, Nat.reduceLT, Nat.reduceEqDiff, Nat.reduceAdd, Nat.reduceMul, Nat.reduceSub, Nat.reduceLeDiff, Int.reduceToNat, Int.reduceNeg, Int.reduceLT, Int.reduceLE, Int.reduceEq, reduceCtorEq, Int.natCast_zero, Int.natCast_one, Int.cast_ofNat_Int, Bool.not_not, false_eq_decide, true_eq_decide, hread0, hreadk, read_cons0, read_consk, astore_h0, astore_hk, hget0, hgetk, hset0, hsetk, hlen, hcat, Nat.add_assoc, Nat.add_zero, Nat.zero_add, List.length_append, and_true, true_and, AV.flat, hb2, get_app hb2, read_get hb2, read_app hb2, *, -hK, -hkind, -n1, -s1, -o1, -o2, -k2, -oo, -nl] | with_reducible refine IfB_dec (fun h => ?_) (fun h => ?_) | with_reducible refine Guard_dec (fun h => ?_) (fun h => ?_) | with_reducible refine Guard_ndec (fun h => ?_) (fun h => ?_) | with_reducible refine Guard_not (fun h => ?_) (fun h => ?_) | with_reducible refine IfB_ndec (fun h => ?_) (fun h => ?_) | with_reducible refine IfB_not (fun h => ?_) (fun h => ?_) | with_reducible refine Guard_split (fun h => ?_) (fun h => ?_) | with_reducible refine IfB_split (fun h => ?_) (fun h => ?_))
    refine append_gr (m := H.length + 1) oo se59 az5 td5 rfl (o2.bs.src tk59) (by simp only [List.length_cons, List.length_nil]; omega) (by omega) ?_
    intro r3 H3 g3
    have hb3 := g3.keep.get hb2 (oo.ne (by omega))
    have hl3 := g3.keep.len
    have o3 := g3.own
    have k3 : Keep none H H3 := g3.keep0 ((Keep.app none H _).trans k2) (fun b hb => by have := oo.ge hb; omega)
    clear g3 oo o1 o2 k2 hb2
    repeat' (first | simp only [go_sem, Nat.reduceLT, Nat.reduceEqDiff, Nat.reduceAdd, Nat.reduceMul, Nat.reduceSub, Nat.reduceLeDiff, Int.reduceToNat, Int.reduceNeg, Int.reduceLT, Int.reduceLE, Int.reduceEq, reduceCtorEq, Int.natCast_zero, Int.natCast_one, Int.cast_ofNat_Int, Bool.not_not, false_eq_decide, true_eq_decide, hread0, hreadk, read_cons0, read_consk, astore_h0, astore_hk, hget0, hgetk, hset0, hsetk, hlen, hcat, Nat.add_assoc, Nat.add_zero, Nat.zero_add, List.length_append, and_true, true_and, AV.flat, *, -hK, -hkind, -n1, -s1, -o3, -k3, -nl] | with_reducible refine IfB_dec (fun h => ?_) (fun h => ?_) | with_reducible refine Guard_dec (fun h => ?_) (fun h => ?_) | with_reducible refine Guard_ndec (fun h => ?_) (fun h => ?_) | with_reducible refine Guard_not (fun h => ?_) (fun h => ?_) | with_reducible refine IfB_ndec (fun h => ?_) (fun h => ?_) | with_reducible refine IfB_not (fun h => ?_) (fun h => ?_) | with_reducible refine Guard_split (fun h => ?_) (fun h => ?_) | with_reducible refine IfB_split (fun h => ?_) (fun h => ?_))
    have oE := o3.mono (m' := H.length) (by omega)
    refine hK _ _ ⟨?_, k3⟩
    refine cast (congrArg (Ob H.length _ _) ?_) oE
    rw [num1 (x := to) (by omega) (by omega)]; simp
  by_cases k5 : kind = 5
  · subst k5
    clear hwhy
    simp only [Chg.putL, Int.reduceEq, if_true, if_false] at hK h4
    refine WC_of_body hT Try.func64 rfl (by simp [Try.f64]) (by simp [Try.f64]) (wx_sound hT _ ?_)
    simp only [Try.f64]
    repeat' (first | simp only [go_sem, Nat.reduceLT, Nat.reduceEqDiff, Nat.reduceAdd, Nat.reduceMul, Nat.reduceSub, Nat.reduceLeDiff, Int.reduceToNat, Int.reduceNeg, Int.reduceLT, Int.reduceLE, Int.reduceEq, reduceCtorEq, Int.natCast_zero, Int.natCast_one, Int.cast_ofNat_Int, Bool.not_not, false_eq_decide, true_eq_decide, hread0, hreadk, read_cons0, read_consk, astore_h0, astore_hk, hget0, hgetk, hset0, hsetk, hlen, hcat, Nat.add_assoc, Nat.add_zero, Nat.zero_add, List.length_append, and_true, true_and, AV.flat, *, -hK, -hkind, -n1, -s1] | with_reducible refine IfB_dec (fun h => ?_) (fun h => ?_) | with_reducible refine Guard_dec (fun h => ?_) (fun h => ?_) | with_reducible refine Guard_ndec (fun h => ?_) (fun h => ?_) | with_reducible refine Guard_not (fun h => ?_) (fun h => ?_) | with_reducible refine IfB_ndec (fun h => ?_) (fun h => ?_) | with_reducible refine IfB_not (fun h => ?_) (fun h => ?_) | with_reducible refine Guard_split (fun h => ?_) (fun h => ?_) | with_reducible refine IfB_split (fun h => ?_) (fun h => ?_))
    have o1 : Ob (H.length + 1) (H ++ [(⟨[.int .u8 5, .int .i64 ten, .str ikey, .str ival, .int .u32 ifl, .int .i64 idue, .int .u64 iuniq, .str key, .int .u8 why, .int .i64 to, .bool prim], 0, .full⟩ : Blk), ⟨[.int .u8 5], 1, .full⟩, ⟨[.int .i64 ten, .int .i64 to], 1, .full⟩]) (.sl (H.length + 1) 0 1 none) [UInt8.ofNat (Int.toNat 5)] := Own.whole (Nat.le_refl _) (by rw [hgetk, ← hkind]; rfl) rfl rfl
    refine (refNums_spec _ [ten, to] _ (get_vs (by rw [hgetk]; rfl) rfl rfl) (by simp)).mono ?_
    rintro r2 H2 ⟨o2, k2⟩
    have hb2 := k2.get (b := H.length) (B := ⟨[.int .u8 5, .int .i64 ten, .str ikey, .str ival, .int .u32 ifl, .int .i64 idue, .int .u64 iuniq, .str key, .int .u8 why, .int .i64 to, .bool prim], 0, .full⟩) (by rw [hget0]; rfl) (by simp)
    have hl2 := k2.len
    simp only [List.length_append, List.length_cons, List.length_nil] at hl2
    have oo := o1.keep0 k2
    have nl := numsL_len [ten, to]
    simp only [List.length_cons, List.length_nil] at nl
    repeat' (first | simp only [go_sem, Nat.reduceLT, Nat.reduceEqDiff, Nat.reduceAdd, Nat.reduceMul, Nat.reduceSub, Nat.reduceLeDiff, Int.reduceToNat, Int.reduceNeg, Int.reduceLT, Int.reduceLE, Int.reduceEq, reduceCtorEq, Int.natCast_zero, Int.natCast_one, Int.cast_ofNat_Int, Bool.not_not, false_eq_decide, true_eq_decide, hread0, hreadk, read_cons0, read_consk, astore_h0, astore_hk, hget0, hgetk, hset0, hsetk, hlen, hcat, Nat.add_assoc, Nat.add_zero, Nat.zero_add, List.length_append, and_true, true_and, AV.flat, hb2, get_app hb2, read_get hb2, read_app hb2, *, -hK, -hkind, -n1, -s1, -o1, -o2, -k2, -oo, -nl] | with_reducible refine IfB_dec (fun h => ?_) (fun h => ?_) | with_reducible refine Guard_dec (fun h => ?_) (fun h => ?_) | with_reducible refine Guard_ndec (fun h => ?_) (fun h => ?_) | with_reducible refine Guard_not (fun h => ?_) (fun h => ?_) | with_reducible refine IfB_ndec (fun h => ?_) (fun h => ?_) | with_reducible refine IfB_not (fun h => ?_) (fun h => ?_) | with_reducible refine Guard_split (fun h => ?_) (fun h => ?_) | with_reducible refine IfB_split (fun h => ?_) (fun h => ?_))
    refine append_gr (m := H.length + 1) oo se59 az5 td5 rfl (o2.bs.src tk59) (by simp only [List.length_cons, List.length_nil]; omega) (by omega) ?_
    intro r3 H3 g3
    have hb3 := g3.keep.get hb2 (oo.ne (by omega))
    have hl3 := g3.keep.len
    have o3 := g3.own
    have k3 : Keep none H H3 := g3.keep0 ((Keep.app none H _).trans k2) (fun b hb => by have := oo.ge hb; omega)
    clear g3 oo o1 o2 k2 hb2
    repeat' (first | simp only [go_sem, Nat.reduceLT, Nat.reduceEqDiff, Nat.reduceAdd, Nat.reduceMul, Nat.reduceSub, Nat.reduceLeDiff, Int.reduceToNat, Int.reduceNeg, Int.reduceLT, Int.reduceLE, Int.reduceEq, reduceCtorEq, Int.natCast_zero, Int.natCast_one, Int.cast_ofNat_Int, Bool.not_not, false_eq_decide, true_eq_decide, hread0, hreadk, read_cons0, read_consk, astore_h0, astore_hk, hget0, hgetk, hset0, hsetk, hlen, hcat, Nat.add_assoc, Nat.add_zero, Nat.zero_add, List.length_append, and_true, true_and, AV.flat, *, -hK, -hkind, -n1, -s1, -o3, -k3, -nl] | with_reducible refine IfB_dec (fun h => ?_) (fun h => ?_) | with_reducible refine Guard_dec (fun h => ?_) (fun h => ?_) | with_reducible refine Guard_ndec (fun h => ?_) (fun h => ?_) | with_reducible refine Guard_not (fun h => ?_) (fun h => ?_) | with_reducible refine IfB_ndec (fun h => ?_) (fun h => ?_) | with_reducible refine IfB_not (fun h => ?_) (fun h => ?_) | with_reducible refine Guard_split (fun h => ?_) (fun h => ?_) | with_reducible refine IfB_split (fun h => ?_) (fun h => ?_))
    have oE := o3.mono (m' := H.length) (by omega)
    refine hK _ _ ⟨?_, k3⟩
    refine cast (congrArg (Ob H.length _ _) ?_) oE
    simp only [numsL, List.flatMap_cons, List.flatMap_nil, List.append_nil]
    rw [u64w_id (show 0 ≤ ten by omega) (by omega), u64w_id (show 0 ≤ to by omega) (by omega)]; simp
  by_cases k6 : kind = 6
  · subst k6
    clear hwhy
    simp only [Chg.putL, Int.reduceEq, if_true, if_false] at hK h4
    cases prim
    · skip
      refine WC_of_body hT Try.func64 rfl (by simp [Try.f64]) (by simp [Try.f64]) (wx_sound hT _ ?_)
      simp only [Try.f64]
      repeat' (first | simp only [go_sem, Nat.reduceLT, Nat.reduceEqDiff, Nat.reduceAdd, Nat.reduceMul, Nat.reduceSub, Nat.reduceLeDiff, Int.reduceToNat, Int.reduceNeg, Int.reduceLT, Int.reduceLE, Int.reduceEq, reduceCtorEq, Int.natCast_zero, Int.natCast_one, Int.cast_ofNat_Int, Bool.not_not, false_eq_decide, true_eq_decide, hread0, hreadk, read_cons0, read_consk, astore_h0, astore_hk, hget0, hgetk, hset0, hsetk, hlen, hcat, Nat.add_assoc, Nat.add_zero, Nat.zero_add, List.length_append, and_true, true_and, AV.flat, *, -hK, -hkind, -n1, -s1] | with_reducible refine IfB_dec (fun h => ?_) (fun h => ?_) | with_reducible refine Guard_dec (fun h => ?_) (fun h => ?_) | with_reducible refine Guard_ndec (fun h => ?_) (fun h => ?_) | with_reducible refine Guard_not (fun h => ?_) (fun h => ?_) | with_reducible refine IfB_ndec (fun h => ?_) (fun h => ?_) | with_reducible refine IfB_not (fun h => ?_) (fun h => ?_) | with_reducible refine Guard_split (fun h => ?_) (fun h => ?_) | with_reducible refine IfB_split (fun h => ?_) (fun h => ?_))
      have o1 : Ob (H.length + 1) (H ++ [(⟨[.int .u8 6, .int .i64 ten, .str ikey, .str ival, .int .u32 ifl, .int .i64 idue, .int .u64 iuniq, .str key, .int .u8 why, .int .i64 to, .bool false], 0, .full⟩ : Blk), ⟨[.int .u8 6], 1, .full⟩, ⟨[.int .i64 to], 1, .full⟩]) (.sl (H.length + 1) 0 1 none) [UInt8.ofNat (Int.toNat 6)] := Own.whole (Nat.le_refl _) (by rw [hgetk, ← hkind]; rfl) rfl rfl
      refine (refNums_spec _ [to] _ (get_vs (by rw [hgetk]; rfl) rfl rfl) (by simp)).mono ?_
      rintro r2 H2 ⟨o2, k2⟩
      have hb2 := k2.get (b := H.length) (B := ⟨[.int .u8 6, .int .i64 ten, .str ikey, .str ival, .int .u32 ifl, .int .i64 idue, .int .u64 iuniq, .str key, .int .u8 why, .int .i64 to, .bool false], 0, .full⟩) (by rw [hget0]; rfl) (by simp)
      have hl2 := k2.len
      simp only [List.length_append, List.length_cons, List.length_nil] at hl2
      have oo := o1.keep0 k2
      have nl := numsL_len [to]
      simp only [List.length_cons, List.length_nil] at nl
      repeat' (first | simp only [go_sem, Nat.reduceLT, Nat.reduceEqDiff, Nat.reduceAdd, Nat.reduceMul, Nat.reduceSub, Nat.reduceLeDiff, Int.reduceToNat, Int.reduceNeg, Int.reduceLT, Int.reduceLE, Int.reduceEq, reduceCtorEq, Int.natCast_zero, Int.natCast_one, Int.cast_ofNat_Int, Bool.not_not, false_eq_decide, true_eq_decide, hread0, hreadk, read_cons0, read_consk, astore_h0, astore_hk, hget0, hgetk, hset0, hsetk, hlen, hcat, Nat.add_assoc, Nat.add_zero, Nat.zero_add, List.length_append, and_true, true_and, AV.flat, hb2, get_app hb2, read_get hb2, read_app hb2, *, -hK, -hkind, -n1, -s1, -o1, -o2, -k2, -oo, -nl] | with_reducible refine IfB_dec (fun h => ?_) (fun h => ?_) | with_reducible refine Guard_dec (fun h => ?_) (fun h => ?_) | with_reducible refine Guard_ndec (fun h => ?_) (fun h => ?_) | with_reducible refine Guard_not (fun h => ?_) (fun h => ?_) | with_reducible refine IfB_ndec (fun h => ?_) (fun h => ?_) | with_reducible refine IfB_not (fun h => ?_) (fun h => ?_) | with_reducible refine Guard_split (fun h => ?_) (fun h => ?_) | with_reducible refine IfB_split (fun h => ?_) (fun h => ?_))
      refine append_gr (m := H.length + 1) oo se59 az5 td5 rfl (o2.bs.src tk59) (by simp only [List.length_cons, List.length_nil]; omega) (by omega) ?_
      intro r3 H3 g3
      have hb3 := g3.keep.get hb2 (oo.ne (by omega))
      have hl3 := g3.keep.len
      have o3 := g3.own
      have k3 : Keep none H H3 := g3.keep0 ((Keep.app none H _).trans k2) (fun b hb => by have := oo.ge hb; omega)
      clear g3 oo o1 o2 k2 hb2
      repeat' (first | simp only [go_sem, Nat.reduceLT, Nat.reduceEqDiff, Nat.reduceAdd, Nat.reduceMul, Nat.reduceSub, Nat.reduceLeDiff, Int.reduceToNat, Int.reduceNeg, Int.reduceLT, Int.reduceLE, Int.reduceEq, reduceCtorEq, Int.natCast_zero, Int.natCast_one, Int.cast_ofNat_Int, Bool.not_not, false_eq_decide, true_eq_decide, hread0, hreadk, read_cons0, read_consk, astore_h0, astore_hk, hget0, hgetk, hset0, hsetk, hlen, hcat, Nat.add_assoc, Nat.add_zero, Nat.zero_add, List.length_append, and_true, true_and, AV.flat, hb3, get_app hb3, read_get hb3, read_app hb3, *, -hK, -hkind, -n1, -s1, -o3, -k3, -nl] | with_reducible refine IfB_dec (fun h => ?_) (fun h => ?_) | with_reducible refine Guard_dec (fun h => ?_) (fun h => ?_) | with_reducible refine Guard_ndec (fun h => ?_) (fun h => ?_) | with_reducible refine Guard_not (fun h => ?_) (fun h => ?_) | with_reducible refine IfB_ndec (fun h => ?_) (fun h => ?_) | with_reducible refine IfB_not (fun h => ?_) (fun h => ?_) | with_reducible refine Guard_split (fun h => ?_) (fun h => ?_) | with_reducible refine IfB_split (fun h => ?_) (fun h => ?_))
      refine append_gr (m := H.length + 1) (o3.keep0 (Keep.app none H3 [(⟨[.int .u8 0], 1, .full⟩ : Blk)])) se59 az5 td5 rfl (r := [0]) (Bs.src (l := [0]) (get_vs (by rw [hget0]; rfl) rfl rfl) tk59) (by simp; omega) (by simp; omega) ?_
      intro r4 H4 g4
      have k4 := g4.keep0 (k3.trans (Keep.app none H3 _)) (fun b hb => by have := o3.ge hb; omega)
      repeat' (first | simp only [go_sem, Nat.reduceLT, Nat.reduceEqDiff, Nat.reduceAdd, Nat.reduceMul, Nat.reduceSub, Nat.reduceLeDiff, Int.reduceToNat, Int.reduceNeg, Int.reduceLT, Int.reduceLE, Int.reduceEq, reduceCtorEq, Int.natCast_zero, Int.natCast_one, Int.cast_ofNat_Int, Bool.not_not, false_eq_decide, true_eq_decide, hread0, hreadk, read_cons0, read_consk, astore_h0, astore_hk, hget0, hgetk, hset0, hsetk, hlen, hcat, Nat.add_assoc, Nat.add_zero, Nat.zero_add, List.length_append, and_true, true_and, AV.flat, *, -hK, -hkind, -n1, -s1, -o3, -k3, -k4, -nl] | with_reducible refine IfB_dec (fun h => ?_) (fun h => ?_) | with_reducible refine Guard_dec (fun h => ?_) (fun h => ?_) | with_reducible refine Guard_ndec (fun h => ?_) (fun h => ?_) | with_reducible refine Guard_not (fun h => ?_) (fun h => ?_) | with_reducible refine IfB_ndec (fun h => ?_) (fun h => ?_) | with_reducible refine IfB_not (fun h => ?_) (fun h => ?_) | with_reducible refine Guard_split (fun h => ?_) (fun h => ?_) | with_reducible refine IfB_split (fun h => ?_) (fun h => ?_))
      have oE := g4.own.mono (m' := H.length) (by omega)
      refine hK _ _ ⟨?_, k4⟩
      refine cast (congrArg (Ob H.length _ _) ?_) oE
      rw [num1 (x := to) (by omega) (by omega)]; simp
    · skip
      refine WC_of_body hT Try.func64 rfl (by simp [Try.f64]) (by simp [Try.f64]) (wx_sound hT _ ?_)
      simp only [Try.f64]
      repeat' (first | simp only [go_sem, Nat.reduceLT, Nat.reduceEqDiff, Nat.reduceAdd, Nat.reduceMul, Nat.reduceSub, Nat.reduceLeDiff, Int.reduceToNat, Int.reduceNeg, Int.reduceLT, Int.reduceLE, Int.reduceEq, reduceCtorEq, Int.natCast_zero, Int.natCast_one, Int.cast_ofNat_Int, Bool.not_not, false_eq_decide, true_eq_decide, hread0, hreadk, read_cons0, read_consk, astore_h0, astore_hk, hget0, hgetk, hset0, hsetk, hlen, hcat, Nat.add_assoc, Nat.add_zero, Nat.zero_add, List.length_append, and_true, true_and, AV.flat, *, -hK, -hkind, -n1, -s1] | with_reducible refine IfB_dec (fun h => ?_) (fun h => ?_) | with_reducible refine Guard_dec (fun h => ?_) (fun h => ?_) | with_reducible refine Guard_ndec (fun h => ?_) (fun h => ?_) | with_reducible refine Guard_not (fun h => ?_) (fun h => ?_) | with_reducible refine IfB_ndec (fun h => ?_) (fun h => ?_) | with_reducible refine IfB_not (fun h => ?_) (fun h => ?_) | with_reducible refine Guard_split (fun h => ?_) (fun h => ?_) | with_reducible refine IfB_split (fun h => ?_) (fun h => ?_))
      have o1 : Ob (H.length + 1) (H ++ [(⟨[.int .u8 6, .int .i64 ten, .str ikey, .str ival, .int .u32 ifl, .int .i64 idue, .int .u64 iuniq, .str key, .int .u8 why, .int .i64 to, .bool true], 0, .full⟩ : Blk), ⟨[.int .u8 6], 1, .full⟩, ⟨[.int .i64 to], 1, .full⟩]) (.sl (H.length + 1) 0 1 none) [UInt8.ofNat (Int.toNat 6)] := Own.whole (Nat.le_refl _) (by rw [hgetk, ← hkind]; rfl) rfl rfl
      refine (refNums_spec _ [to] _ (get_vs (by rw [hgetk]; rfl) rfl rfl) (by simp)).mono ?_
      rintro r2 H2 ⟨o2, k2⟩
      have hb2 := k2.get (b := H.length) (B := ⟨[.int .u8 6, .int .i64 ten, .str ikey, .str ival, .int .u32 ifl, .int .i64 idue, .int .u64 iuniq, .str key, .int .u8 why, .int .i64 to, .bool true], 0, .full⟩) (by rw [hget0]; rfl) (by simp)
      have hl2 := k2.len
      simp only [List.length_append, List.length_cons, List.length_nil] at hl2
      have oo := o1.keep0 k2
      have nl := numsL_len [to]
      simp only [List.length_cons, List.length_nil] at nl
      repeat' (first | simp only [go_sem, Nat.reduceLT, Nat.reduceEqDiff, Nat.reduceAdd, Nat.reduceMul, Nat.reduceSub, Nat.reduceLeDiff, Int.reduceToNat, Int.reduceNeg, Int.reduceLT, Int.reduceLE, Int.reduceEq, reduceCtorEq, Int.natCast_zero, Int.natCast_one, Int.cast_ofNat_Int, Bool.not_not, false_eq_decide, true_eq_decide, hread0, hreadk, read_cons0, read_consk, astore_h0, astore_hk, hget0, hgetk, hset0, hsetk, hlen, hcat, Nat.add_assoc, Nat.add_zero, Nat.zero_add, List.length_append, and_true, true_and, AV.flat, hb2, get_app hb2, read_get hb2, read_app hb2, *, -hK, -hkind, -n1, -s1, -o1, -o2, -k2, -oo, -nl] | with_reducible refine IfB_dec (fun h => ?_) (fun h => ?_) | with_reducible refine Guard_dec (fun h => ?_) (fun h => ?_) | with_reducible refine Guard_ndec (fun h => ?_) (fun h => ?_) | with_reducible refine Guard_not (fun h => ?_) (fun h => ?_) | with_reducible refine IfB_ndec (fun h => ?_) (fun h => ?_) | with_reducible refine IfB_not (fun h => ?_) (fun h => ?_) | with_reducible refine Guard_split (fun h => ?_) (fun h => ?_) | with_reducible refine IfB_split (fun h => ?_) (fun h => ?_))
      refine append_gr (m := H.length + 1) oo se59 az5 td5 rfl (o2.bs.src tk59) (by simp only [List.length_cons, List.length_nil]; omega) (by omega) ?_
      intro r3 H3 g3
      have hb3 := g3.keep.get hb2 (oo.ne (by omega))
      have hl3 := g3.keep.len
      have o3 := g3.own
      have k3 : Keep none H H3 := g3.keep0 ((Keep.app none H _).trans k2) (fun b hb => by have := oo.ge hb; omega)
      clear g3 oo o1 o2 k2 hb2
      repeat' (first | simp only [go_sem, Nat.reduceLT, Nat.reduceEqDiff, Nat.reduceAdd, Nat.reduceMul, Nat.reduceSub, Nat.reduceLeDiff, Int.reduceToNat, Int.reduceNeg, Int.reduceLT, Int.reduceLE, Int.reduceEq, reduceCtorEq, Int.natCast_zero, Int.natCast_one, Int.cast_ofNat_Int, Bool.not_not, false_eq_decide, true_eq_decide, hread0, hreadk, read_cons0, read_consk, astore_h0, astore_hk, hget0, hgetk, hset0, hsetk, hlen, hcat, Nat.add_assoc, Nat.add_zero, Nat.zero_add, List.length_append, and_true, true_and, AV.flat, hb3, get_app hb3, read_get hb3, read_app hb3, *, -hK, -hkind, -n1, -s1, -o3, -k3, -nl] | with_reducible refine IfB_dec (fun h => ?_) (fun h => ?_) | with_reducible refine Guard_dec (fun h => ?_) (fun h => ?_) | with_reducible refine Guard_ndec (fun h => ?_) (fun h => ?_) | with_reducible refine Guard_not (fun h => ?_) (fun h => ?_) | with_reducible refine IfB_ndec (fun h => ?_) (fun h => ?_) | with_reducible refine IfB_not (fun h => ?_) (fun h => ?_) | with_reducible refine Guard_split (fun h => ?_) (fun h => ?_) | with_reducible refine IfB_split (fun h => ?_) (fun h => ?_))
      refine append_gr (m := H.length + 1) (o3.keep0 (Keep.app none H3 [(⟨[.int .u8 1], 1, .full⟩ : Blk)])) se59 az5 td5 rfl (r := [1]) (Bs.src (l := [1]) (get_vs (by rw [hget0]; rfl) rfl rfl) tk59) (by simp; omega) (by simp; omega) ?_
      intro r4 H4 g4
      have k4 := g4.keep0 (k3.trans (Keep.app none H3 _)) (fun b hb => by have := o3.ge hb; omega)
      repeat' (first | simp only [go_sem, Nat.reduceLT, Nat.reduceEqDiff, Nat.reduceAdd, Nat.reduceMul, Nat.reduceSub, Nat.reduceLeDiff, Int.reduceToNat, Int.reduceNeg, Int.reduceLT, Int.reduceLE, Int.reduceEq, reduceCtorEq, Int.natCast_zero, Int.natCast_one, Int.cast_ofNat_Int, Bool.not_not, false_eq_decide, true_eq_decide, hread0, hreadk, read_cons0, read_consk, astore_h0, astore_hk, hget0, hgetk, hset0, hsetk, hlen, hcat, Nat.add_assoc, Nat.add_zero, Nat.zero_add, List.length_append, and_true, true_and, AV.flat, *, -hK, -hkind, -n1, -s1, -o3, -k3, -k4, -nl] | with_reducible refine IfB_dec (fun h => ?_) (fun h => ?_) | with_reducible refine Guard_dec (fun h => ?_) (fun h => ?_) | with_reducible refine Guard_ndec (fun h => ?_) (fun h => ?_) | with_reducible refine Guard_not (fun h => ?_) (fun h => ?_) | with_reducible refine IfB_ndec (fun h => ?_) (fun h => ?_) | with_reducible refine IfB_not (fun h => ?_) (fun h => ?_) | with_reducible refine Guard_split (fun h => ?_) (fun h => ?_) | with_reducible refine IfB_split (fun h => ?_) (fun h => ?_))
      have oE := g4.own.mono (m' := H.length) (by omega)
      refine hK _ _ ⟨?_, k4⟩
      refine cast (congrArg (Ob H.length _ _) ?_) oE
      rw [num1 (x := to) (by omega) (by omega)]; simp
  by_cases k2 : kind = 2
  · subst k2
    simp only [Chg.putL, Int.reduceEq, if_true, if_false] at hK h4
    have sx := fun J => refTextP key (by omega) J
    have tl := textL_len (s := key) (by omega)
    refine WC_of_body hT Try.func64 rfl (by simp [Try.f64]) (by simp [Try.f64]) (wx_sound hT _ ?_)
    simp only [Try.f64]
    repeat' (first | simp only [go_sem, Nat.reduceLT, Nat.reduceEqDiff, Nat.reduceAdd, Nat.reduceMul, Nat.reduceSub, Nat.reduceLeDiff, Int.reduceToNat, Int.reduceNeg, Int.reduceLT, Int.reduceLE, Int.reduceEq, reduceCtorEq, Int.natCast_zero, Int.natCast_one, Int.cast_ofNat_Int, Bool.not_not, false_eq_decide, true_eq_decide, hread0, hreadk, read_cons0, read_consk, astore_h0, astore_hk, hget0, hgetk, hset0, hsetk, hlen, hcat, Nat.add_assoc, Nat.add_zero, Nat.zero_add, List.length_append, and_true, true_and, AV.flat, *, -hK, -hkind, -n1, -s1, -sx, -hwhy, -tl] | with_reducible refine IfB_dec (fun h => ?_) (fun h => ?_) | with_reducible refine Guard_dec (fun h => ?_) (fun h => ?_) | with_reducible refine Guard_ndec (fun h => ?_) (fun h => ?_) | with_reducible refine Guard_not (fun h => ?_) (fun h => ?_) | with_reducible refine IfB_ndec (fun h => ?_) (fun h => ?_) | with_reducible refine IfB_not (fun h => ?_) (fun h => ?_) | with_reducible refine Guard_split (fun h => ?_) (fun h => ?_) | with_reducible refine IfB_split (fun h => ?_) (fun h => ?_))
    have o1 : Ob (H.length + 1) (H ++ [(⟨[.int .u8 2, .int .i64 ten, .str ikey, .str ival, .int .u32 ifl, .int .i64 idue, .int .u64 iuniq, .str key, .int .u8 why, .int .i64 to, .bool prim], 0, .full⟩ : Blk), ⟨[.int .u8 2], 1, .full⟩, ⟨[.int .i64 ten], 1, .full⟩]) (.sl (H.length + 1) 0 1 none) [UInt8.ofNat (Int.toNat 2)] := Own.whole (Nat.le_refl _) (by rw [hgetk, ← hkind]; rfl) rfl rfl
    refine (refNums_spec _ [ten] _ (get_vs (by rw [hgetk]; rfl) rfl rfl) (by simp)).mono ?_
    rintro r2 H2 ⟨o2, k2⟩
    have hb2 := k2.get (b := H.length) (B := ⟨[.int .u8 2, .int .i64 ten, .str ikey, .str ival, .int .u32 ifl, .int .i64 idue, .int .u64 iuniq, .str key, .int .u8 why, .int .i64 to, .bool prim], 0, .full⟩) (by rw [hget0]; rfl) (by simp)
    have hl2 := k2.len
    simp only [List.length_append, List.length_cons, List.length_nil] at hl2
    have oo := o1.keep0 k2
    have nl := numsL_len [ten]
    simp only [List.length_cons, List.length_nil] at nl
    repeat' (first | simp only [go_sem, Nat.reduceLT, Nat.reduceEqDiff, Nat.reduceAdd, Nat.reduceMul, Nat.reduceSub, Nat.reduceLeDiff, Int.reduceToNat, Int.reduceNeg, Int.reduceLT, Int.reduceLE, Int.reduceEq, reduceCtorEq, Int.natCast_zero, Int.natCast_one, Int.cast_ofNat_Int, Bool.not_not, false_eq_decide, true_eq_decide, hread0, hreadk, read_cons0, read_consk, astore_h0, astore_hk, hget0, hgetk, hset0, hsetk, hlen, hcat, Nat.add_assoc, Nat.add_zero, Nat.zero_add, List.length_append, and_true, true_and, AV.flat, hb2, get_app hb2, read_get hb2, read_app hb2, *, -hK, -hkind, -n1, -s1, -o1, -o2, -k2, -oo, -nl] | with_reducible refine IfB_dec (fun h => ?_) (fun h => ?_) | with_reducible refine Guard_dec (fun h => ?_) (fun h => ?_) | with_reducible refine Guard_ndec (fun h => ?_) (fun h => ?_) | with_reducible refine Guard_not (fun h => ?_) (fun h => ?_) | with_reducible refine IfB_ndec (fun h => ?_) (fun h => ?_) | with_reducible refine IfB_not (fun h => ?_) (fun h => ?_) | with_reducible refine Guard_split (fun h => ?_) (fun h => ?_) | with_reducible refine IfB_split (fun h => ?_) (fun h => ?_))
    refine append_gr (m := H.length + 1) oo se59 az5 td5 rfl (o2.bs.src tk59) (by simp only [List.length_cons, List.length_nil]; omega) (by omega) ?_
    intro r3 H3 g3
    have hb3 := g3.keep.get hb2 (oo.ne (by omega))
    have hl3 := g3.keep.len
    have o3 := g3.own
    have k3 : Keep none H H3 := g3.keep0 ((Keep.app none H _).trans k2) (fun b hb => by have := oo.ge hb; omega)
    clear g3 oo o1 o2 k2 hb2
    rw [n1] at o3
    repeat' (first | simp only [go_sem, Nat.reduceLT, Nat.reduceEqDiff, Nat.reduceAdd, Nat.reduceMul, Nat.reduceSub, Nat.reduceLeDiff, Int.reduceToNat, Int.reduceNeg, Int.reduceLT, Int.reduceLE, Int.reduceEq, reduceCtorEq, Int.natCast_zero, Int.natCast_one, Int.cast_ofNat_Int, Bool.not_not, false_eq_decide, true_eq_decide, hread0, hreadk, read_cons0, read_consk, astore_h0, astore_hk, hget0, hgetk, hset0, hsetk, hlen, hcat, Nat.add_assoc, Nat.add_zero, Nat.zero_add, List.length_append, and_true, true_and, AV.flat, hb3, get_app hb3, read_get hb3, read_app hb3, *, -hK, -hkind, -n1, -s1, -o3, -k3, -nl, -sx, -hwhy, -tl] | refine WC.call (sx _) ?_ | with_reducible refine IfB_dec (fun h => ?_) (fun h => ?_) | with_reducible refine Guard_dec (fun h => ?_) (fun h => ?_) | with_reducible refine Guard_ndec (fun h => ?_) (fun h => ?_) | with_reducible refine Guard_not (fun h => ?_) (fun h => ?_) | with_reducible refine IfB_ndec (fun h => ?_) (fun h => ?_) | with_reducible refine IfB_not (fun h => ?_) (fun h => ?_) | with_reducible refine Guard_split (fun h => ?_) (fun h => ?_) | with_reducible refine IfB_split (fun h => ?_) (fun h => ?_))
    refine append_gr (m := H.length + 1) o3 se59 az5 td5 rfl (u8_src tk59) (by simp; omega) (by omega) ?_
    intro r4 H4 g4
    have hb4 := g4.keep.get hb3 (o3.ne (by omega))
    have k4 := g4.keep0 k3 (fun b hb => by have := o3.ge hb; omega)
    have o4 := g4.own
    have hl4 := k4.len
    repeat' (first | simp only [go_sem, Nat.reduceLT, Nat.reduceEqDiff, Nat.reduceAdd, Nat.reduceMul, Nat.reduceSub, Nat.reduceLeDiff, Int.reduceToNat, Int.reduceNeg, Int.reduceLT, Int.reduceLE, Int.reduceEq, reduceCtorEq, Int.natCast_zero, Int.natCast_one, Int.cast_ofNat_Int, Bool.not_not, false_eq_decide, true_eq_decide, hread0, hreadk, read_cons0, read_consk, astore_h0, astore_hk, hget0, hgetk, hset0, hsetk, hlen, hcat, Nat.add_assoc, Nat.add_zero, Nat.zero_add, List.length_append, and_true, true_and, AV.flat, hb4, get_app hb4, read_get hb4, read_app hb4, *, -hK, -hkind, -n1, -s1, -o3, -k3, -nl, -sx, -hwhy, -tl, -k4, -o4] | with_reducible refine IfB_dec (fun h => ?_) (fun h => ?_) | with_reducible refine Guard_dec (fun h => ?_) (fun h => ?_) | with_reducible refine Guard_ndec (fun h => ?_) (fun h => ?_) | with_reducible refine Guard_not (fun h => ?_) (fun h => ?_) | with_reducible refine IfB_ndec (fun h => ?_) (fun h => ?_) | with_reducible refine IfB_not (fun h => ?_) (fun h => ?_) | with_reducible refine Guard_split (fun h => ?_) (fun h => ?_) | with_reducible refine IfB_split (fun h => ?_) (fun h => ?_))
    have kb : Bs (H4 ++ [(⟨[.int .u8 why], 1, .full⟩ : Blk)]) (.sl H4.length 0 1 none) [UInt8.ofNat why.toNat] := get_vs (by rw [hget0, hwhy]; rfl) rfl rfl
    refine append_gr (m := H.length + 1) (o4.keep0 (Keep.app none H4 [(⟨[.int .u8 why], 1, .full⟩ : Blk)])) se59 az5 td5 rfl (kb.src tk59) (by simp; omega) (by have := g4.keep.len; simp; omega) ?_
    intro r5 H5 g5
    have k5 := g5.keep0 (k4.trans (Keep.app none H4 _)) (fun b hb => by have := o4.ge hb; omega)
    repeat' (first | simp only [go_sem, Nat.reduceLT, Nat.reduceEqDiff, Nat.reduceAdd, Nat.reduceMul, Nat.reduceSub, Nat.reduceLeDiff, Int.reduceToNat, Int.reduceNeg, Int.reduceLT, Int.reduceLE, Int.reduceEq, reduceCtorEq, Int.natCast_zero, Int.natCast_one, Int.cast_ofNat_Int, Bool.not_not, false_eq_decide, true_eq_decide, hread0, hreadk, read_cons0, read_consk, astore_h0, astore_hk, hget0, hgetk, hset0, hsetk, hlen, hcat, Nat.add_assoc, Nat.add_zero, Nat.zero_add, List.length_append, and_true, true_and, AV.flat, *, -hK, -hkind, -n1, -s1, -o3, -k3, -nl, -sx, -hwhy, -tl, -k4, -o4, -k5] | with_reducible refine IfB_dec (fun h => ?_) (fun h => ?_) | with_reducible refine Guard_dec (fun h => ?_) (fun h => ?_) | with_reducible refine Guard_ndec (fun h => ?_) (fun h => ?_) | with_reducible refine Guard_not (fun h => ?_) (fun h => ?_) | with_reducible refine IfB_ndec (fun h => ?_) (fun h => ?_) | with_reducible refine IfB_not (fun h => ?_) (fun h => ?_) | with_reducible refine Guard_split (fun h => ?_) (fun h => ?_) | with_reducible refine IfB_split (fun h => ?_) (fun h => ?_))
    have oE := g5.own.mono (m' := H.length) (by omega)
    refine hK _ _ ⟨?_, k5⟩
    refine cast (congrArg (Ob H.length _ _) ?_) oE
    simp
  have k1 : kind = 1 := by omega
  subst k1
  clear hwhy
  simp only [Chg.putL, Int.reduceEq, if_true, if_false] at hK h4
  have sx := fun J => itemBytes_spec ikey ival ifl idue iuniq (by omega) (by omega) (by omega) (by omega) (by omega) J
  have tl : (itemL ikey ival ifl idue iuniq).length ≤ 1000 := by
    have t1 := textL_len (s := ikey) (by omega)
    have t2 := textL_len (s := ival) (by omega)
    have t3 := small_len10 (n := ifl.toNat) (by omega)
    have t4 := small_len10 (n := idue.toNat) (by omega)
    have t5 := small_len10 (n := iuniq.toNat) (by omega)
    simp only [itemL, List.length_append]; omega
  refine WC_of_body hT Try.func64 rfl (by simp [Try.f64]) (by simp [Try.f64]) (wx_sound hT _ ?_)
  simp only [Try.f64]
  repeat' (first | simp only [go_sem, Nat.reduceLT, Nat.reduceEqDiff, Nat.reduceAdd, Nat.reduceMul, Nat.reduceSub, Nat.reduceLeDiff, Int.reduceToNat, Int.reduceNeg, Int.reduceLT, Int.reduceLE, Int.reduceEq, reduceCtorEq, Int.natCast_zero, Int.natCast_one, Int.cast_ofNat_Int, Bool.not_not, false_eq_decide, true_eq_decide, hread0, hreadk, read_cons0, read_consk, astore_h0, astore_hk, hget0, hgetk, hset0, hsetk, hlen, hcat, Nat.add_assoc, Nat.add_zero, Nat.zero_add, List.length_append, and_true, true_and, AV.flat, *, -hK, -hkind, -n1, -s1, -sx, -tl] | with_reducible refine IfB_dec (fun h => ?_) (fun h => ?_) | with_reducible refine Guard_dec (fun h => ?_) (fun h => ?_) | with_reducible refine Guard_ndec (fun h => ?_) (fun h => ?_) | with_reducible refine Guard_not (fun h => ?_) (fun h => ?_) | with_reducible refine IfB_ndec (fun h => ?_) (fun h => ?_) | with_reducible refine IfB_not (fun h => ?_) (fun h => ?_) | with_reducible refine Guard_split (fun h => ?_) (fun h => ?_) | with_reducible refine IfB_split (fun h => ?_) (fun h => ?_))
  have o1 : Ob (H.length + 1) (H ++ [(⟨[.int .u8 1, .int .i64 ten, .str ikey, .str ival, .int .u32 ifl, .int .i64 idue, .int .u64 iuniq, .str key, .int .u8 why, .int .i64 to, .bool prim], 0, .full⟩ : Blk), ⟨[.int .u8 1], 1, .full⟩, ⟨[.int .i64 ten], 1, .full⟩]) (.sl (H.length + 1) 0 1 none) [UInt8.ofNat (Int.toNat 1)] := Own.whole (Nat.le_refl _) (by rw [hgetk, ← hkind]; rfl) rfl rfl
  refine (refNums_spec _ [ten] _ (get_vs (by rw [hgetk]; rfl) rfl rfl) (by simp)).mono ?_
  rintro r2 H2 ⟨o2, k2⟩
  have hb2 := k2.get (b := H.length) (B := ⟨[.int .u8 1, .int .i64 ten, .str ikey, .str ival, .int .u32 ifl, .int .i64 idue, .int .u64 iuniq, .str key, .int .u8 why, .int .i64 to, .bool prim], 0, .full⟩) (by rw [hget0]; rfl) (by simp)
  have hl2 := k2.len
  simp only [List.length_append, List.length_cons, List.length_nil] at hl2
  have oo := o1.keep0 k2
  have nl := numsL_len [ten]
  simp only [List.length_cons, List.length_nil] at nl
  repeat' (first | simp only [go_sem, Nat.reduceLT, Nat.reduceEqDiff, Nat.reduceAdd, Nat.reduceMul, Nat.reduceSub, Nat.reduceLeDiff, Int.reduceToNat, Int.reduceNeg, Int.reduceLT, Int.reduceLE, Int.reduceEq, reduceCtorEq, Int.natCast_zero, Int.natCast_one, Int.cast_ofNat_Int, Bool.not_not, false_eq_decide, true_eq_decide, hread0, hreadk, read_cons0, read_consk, astore_h0, astore_hk, hget0, hgetk, hset0, hsetk, hlen, hcat, Nat.add_assoc, Nat.add_zero, Nat.zero_add, List.length_append, and_true, true_and, AV.flat, hb2, get_app hb2, read_get hb2, read_app hb2, *, -hK, -hkind, -n1, -s1, -o1, -o2, -k2, -oo, -nl] | with_reducible refine IfB_dec (fun h => ?_) (fun h => ?_) | with_reducible refine Guard_dec (fun h => ?_) (fun h => ?_) | with_reducible refine Guard_ndec (fun h => ?_) (fun h => ?_) | with_reducible refine Guard_not (fun h => ?_) (fun h => ?_) | with_reducible refine IfB_ndec (fun h => ?_) (fun h => ?_) | with_reducible refine IfB_not (fun h => ?_) (fun h => ?_) | with_reducible refine Guard_split (fun h => ?_) (fun h => ?_) | with_reducible refine IfB_split (fun h => ?_) (fun h => ?_))
  refine append_gr (m := H.length + 1) oo se59 az5 td5 rfl (o2.bs.src tk59) (by simp only [List.length_cons, List.length_nil]; omega) (by omega) ?_
  intro r3 H3 g3
  have hb3 := g3.keep.get hb2 (oo.ne (by omega))
  have hl3 := g3.keep.len
  have o3 := g3.own
  have k3 : Keep none H H3 := g3.keep0 ((Keep.app none H _).trans k2) (fun b hb => by have := oo.ge hb; omega)
  clear g3 oo o1 o2 k2 hb2
  rw [n1] at o3
  repeat' (first | simp only [go_sem, Nat.reduceLT, Nat.reduceEqDiff, Nat.reduceAdd, Nat.reduceMul, Nat.reduceSub, Nat.reduceLeDiff, Int.reduceToNat, Int.reduceNeg, Int.reduceLT, Int.reduceLE, Int.reduceEq, reduceCtorEq, Int.natCast_zero, Int.natCast_one, Int.cast_ofNat_Int, Bool.not_not, false_eq_decide, true_eq_decide, hread0, hreadk, read_cons0, read_consk, astore_h0, astore_hk, hget0, hgetk, hset0, hsetk, hlen, hcat, Nat.add_assoc, Nat.add_zero, Nat.zero_add, List.length_append, and_true, true_and, AV.flat, hb3, get_app hb3, read_get hb3, read_app hb3, *, -hK, -hkind, -n1, -s1, -o3, -k3, -nl, -sx, -tl] | refine WC.call (sx _) ?_ | with_reducible refine IfB_dec (fun h => ?_) (fun h => ?_) | with_reducible refine Guard_dec (fun h => ?_) (fun h => ?_) | with_reducible refine Guard_ndec (fun h => ?_) (fun h => ?_) | with_reducible refine Guard_not (fun h => ?_) (fun h => ?_) | with_reducible refine IfB_ndec (fun h => ?_) (fun h => ?_) | with_reducible refine IfB_not (fun h => ?_) (fun h => ?_) | with_reducible refine Guard_split (fun h => ?_) (fun h => ?_) | with_reducible refine IfB_split (fun h => ?_) (fun h => ?_))
  refine append_gr (m := H.length + 1) o3 se59 az5 td5 rfl (u8_src tk59) (by simp; omega) (by omega) ?_
  intro r4 H4 g4
  have k4 := g4.keep0 k3 (fun b hb => by have := o3.ge hb; omega)
  repeat' (first | simp only [go_sem, Nat.reduceLT, Nat.reduceEqDiff, Nat.reduceAdd, Nat.reduceMul, Nat.reduceSub, Nat.reduceLeDiff, Int.reduceToNat, Int.reduceNeg, Int.reduceLT, Int.reduceLE, Int.reduceEq, reduceCtorEq, Int.natCast_zero, Int.natCast_one, Int.cast_ofNat_Int, Bool.not_not, false_eq_decide, true_eq_decide, hread0, hreadk, read_cons0, read_consk, astore_h0, astore_hk, hget0, hgetk, hset0, hsetk, hlen, hcat, Nat.add_assoc, Nat.add_zero, Nat.zero_add, List.length_append, and_true, true_and, AV.flat, *, -hK, -hkind, -n1, -s1, -o3, -k3, -nl, -sx, -tl, -k4] | with_reducible refine IfB_dec (fun h => ?_) (fun h => ?_) | with_reducible refine Guard_dec (fun h => ?_) (fun h => ?_) | with_reducible refine Guard_ndec (fun h => ?_) (fun h => ?_) | with_reducible refine Guard_not (fun h => ?_) (fun h => ?_) | with_reducible refine IfB_ndec (fun h => ?_) (fun h => ?_) | with_reducible refine IfB_not (fun h => ?_) (fun h => ?_) | with_reducible refine Guard_split (fun h => ?_) (fun h => ?_) | with_reducible refine IfB_split (fun h => ?_) (fun h => ?_))
  have oE := g4.own.mono (m' := H.length) (by omega)
  refine hK _ _ ⟨?_, k4⟩
  refine cast (congrArg (Ob H.length _ _) ?_) oE
  simp [itemL]
/-! ### the document: changes as bytes -/
theorem putL_len {c : Chg} (ho : c.Ok) (hm : c.mayB = true) : c.putL.length ≤ 1000 := by
  obtain ⟨h1, h2, h3, h4⟩ := may_facts ho hm
  have hif := ho.ifl
  have hu := ho.iuniq
  have s1 := small_len10 (n := c.ten.toNat) (by omega)
  have s2 := small_len10 (n := c.ifl.toNat) (by omega)
  have s3 := small_len10 (n := c.iuniq.toNat) (by omega)
  unfold Chg.goodP at h4
  unfold Chg.putL
  by_cases k1 : c.kind = 1
  · simp only [k1, if_true] at h4 ⊢
    have t1 := textL_len (s := c.ikey) (by omega)
    have t2 := textL_len (s := c.ival) (by omega)
    have s4 := small_len10 (n := c.idue.toNat) (by omega)
    simp only [List.length_cons, List.length_append]; omega
  by_cases k2 : c.kind = 2
  · simp only [k2, Int.reduceEq, if_true, if_false] at h4 ⊢
    have t1 := textL_len (s := c.key) (by omega)
    simp only [List.length_cons, List.length_append, List.length_nil]; omega
  by_cases k3 : c.kind = 3
  · simp only [k3, Int.reduceEq, if_true, if_false] at h4 ⊢
    simp only [List.length_cons]; omega
  have s5 : (small c.to.toNat).length ≤ 10 := small_len10 (n := c.to.toNat) (by
    simp only [k1, k2, k3, if_false] at h4
    (repeat' split at h4) <;> first | omega | exact h4.elim)
  simp only [k1, k2, k3, if_false]
  repeat' split
  all_goals simp only [List.length_cons, List.length_append, List.length_nil]; omega
theorem refChanges_own (l : List Chg) (hl : l.length ≤ 140737488355328) (ho : ∀ c ∈ l, c.Ok) (H : Heap) : WC Try.prog 52 [chgE.lst l] H fun r H' => (∃ b, r = .tup [b, .int .i64 (changesL l).2] ∧ Ob H.length H' b (changesL l).1) ∧ Keep none H H' := by
  refine WC_of_K fun K hK => ?_
  by_cases h1 : l.length > 4096
  · have i1 : (l.length : Int) > 4096 := by omega
    rw [show changesL l = ([], 4) by unfold changesL; rw [if_pos h1]] at hK
    clear h1
    refine WC_of_body hT Try.func52 rfl (by simp [Try.f52]) (by simp [Try.f52]) (wx_sound hT _ ?_)
    simp only [Try.f52]
    repeat' (first | simp only [go_sem, Nat.reduceLT, Nat.reduceEqDiff, Nat.reduceAdd, Nat.reduceMul, Nat.reduceSub, Nat.reduceLeDiff, Int.reduceToNat, Int.reduceNeg, Int.reduceLT, Int.reduceLE, Int.reduceEq, reduceCtorEq, Int.natCast_zero, Int.natCast_one, Int.cast_ofNat_Int, Bool.not_not, false_eq_decide, true_eq_decide, hread0, hreadk, read_cons0, read_consk, astore_h0, astore_hk, hget0, hgetk, hset0, hsetk, hlen, hcat, Nat.add_assoc, Nat.add_zero, Nat.zero_add, List.length_append, and_true, true_and, AV.flat, *, -hK] | with_reducible refine IfB_dec (fun h => ?_) (fun h => ?_) | with_reducible refine Guard_dec (fun h => ?_) (fun h => ?_) | with_reducible refine Guard_ndec (fun h => ?_) (fun h => ?_) | with_reducible refine Guard_not (fun h => ?_) (fun h => ?_) | with_reducible refine IfB_ndec (fun h => ?_) (fun h => ?_) | with_reducible refine IfB_not (fun h => ?_) (fun h => ?_) | with_reducible refine Guard_split (fun h => ?_) (fun h => ?_) | with_reducible refine IfB_split (fun h => ?_) (fun h => ?_))
    exact hK _ _ ⟨⟨_, rfl, Ob.nils _ _⟩, Keep.refl _ _⟩
  have i1 : ¬ (l.length : Int) > 4096 := by omega
  refine WC_of_body hT Try.func52 rfl (by simp [Try.f52]) (by simp [Try.f52]) (wx_sound hT _ ?_)
  simp only [Try.f52]
  repeat' (first | simp only [go_sem, Nat.reduceLT, Nat.reduceEqDiff, Nat.reduceAdd, Nat.reduceMul, Nat.reduceSub, Nat.reduceLeDiff, Int.reduceToNat, Int.reduceNeg, Int.reduceLT, Int.reduceLE, Int.reduceEq, reduceCtorEq, Int.natCast_zero, Int.natCast_one, Int.cast_ofNat_Int, Bool.not_not, false_eq_decide, true_eq_decide, hread0, hreadk, read_cons0, read_consk, astore_h0, astore_hk, hget0, hgetk, hset0, hsetk, hlen, hcat, Nat.add_assoc, Nat.add_zero, Nat.zero_add, List.length_append, and_true, true_and, AV.flat, *, -hK, -h1] | with_reducible refine IfB_dec (fun h => ?_) (fun h => ?_) | with_reducible refine Guard_dec (fun h => ?_) (fun h => ?_) | with_reducible refine Guard_ndec (fun h => ?_) (fun h => ?_) | with_reducible refine Guard_not (fun h => ?_) (fun h => ?_) | with_reducible refine IfB_ndec (fun h => ?_) (fun h => ?_) | with_reducible refine IfB_not (fun h => ?_) (fun h => ?_) | with_reducible refine Guard_split (fun h => ?_) (fun h => ?_) | with_reducible refine IfB_split (fun h => ?_) (fun h => ?_))
  refine (refNums_spec _ [(l.length : Int)] _ (get_vs (by rw [hget0]; rfl) rfl rfl) (by simp)).mono ?_
  rintro r2 H2 ⟨o2, k2⟩
  have hn := num1 (x := (l.length : Int)) (by omega) (by omega)
  have hs10 := small_len10 (n := l.length) (by omega)
  rw [hn, Int.toNat_natCast] at o2
  have kS : Keep none H H2 := (Keep.app none H _).trans k2
  have oS := o2.mono (m' := H.length) (by simp)
  clear hn k2 o2
  repeat' (first | simp only [go_sem, Nat.reduceLT, Nat.reduceEqDiff, Nat.reduceAdd, Nat.reduceMul, Nat.reduceSub, Nat.reduceLeDiff, Int.reduceToNat, Int.reduceNeg, Int.reduceLT, Int.reduceLE, Int.reduceEq, reduceCtorEq, Int.natCast_zero, Int.natCast_one, Int.cast_ofNat_Int, Bool.not_not, false_eq_decide, true_eq_decide, hread0, hreadk, read_cons0, read_consk, astore_h0, astore_hk, hget0, hgetk, hset0, hsetk, hlen, hcat, Nat.add_assoc, Nat.add_zero, Nat.zero_add, List.length_append, and_true, true_and, AV.flat, *, -hK, -h1, -hs10, -oS, -kS] | with_reducible refine IfB_dec (fun h => ?_) (fun h => ?_) | with_reducible refine Guard_dec (fun h => ?_) (fun h => ?_) | with_reducible refine Guard_ndec (fun h => ?_) (fun h => ?_) | with_reducible refine Guard_not (fun h => ?_) (fun h => ?_) | with_reducible refine IfB_ndec (fun h => ?_) (fun h => ?_) | with_reducible refine IfB_not (fun h => ?_) (fun h => ?_) | with_reducible refine Guard_split (fun h => ?_) (fun h => ?_) | with_reducible refine IfB_split (fun h => ?_) (fun h => ?_))
  refine WX_loopS [0, 4] (fun k fr' H' => ∃ i : Nat, k = l.length - i ∧ i ≤ l.length ∧ fr'.get 5 = .int .i64 i ∧ (l.take i).all Chg.mayB = true ∧ H' = H2) l.length ⟨0, rfl, by omega, by simp only [go_sem, Nat.reduceLT, Nat.reduceEqDiff, Nat.reduceAdd, Nat.reduceMul, Nat.reduceSub, Nat.reduceLeDiff, Int.reduceToNat, Int.reduceNeg, Int.reduceLT, Int.reduceLE, Int.reduceEq, reduceCtorEq]; rfl, by simp, rfl⟩ ?_
  rintro k fr' H1 A R hA hs hg hR ⟨i, rfl, hi, f14, hall, rfl⟩
  have s0 := hg 0 (by decide)
  have s4 := hg 4 (by decide)
  simp only [Fr.get_put, Fr.get_init, List.getD_cons_zero, List.getD_cons_succ, Nat.reduceEqDiff, if_true, if_false] at s0 s4
  refine wx_sound hT _ ?_
  by_cases hlt : i < l.length
  · have e1 := at_enc (E := chgE) (T := T) (k := .i64) se25 hlt rfl
    have e3 := inc_id hlt hl
    have hlti : (i : Int) < l.length := by omega
    have sm := fun J => refMayC_spec l[i] J
    unfold Chg.av at sm
    rw [chgE_cells] at e1
    cases hm : l[i].mayB with
    | true =>
      rw [hm] at sm
      repeat' (first | simp only [go_sem, Nat.reduceLT, Nat.reduceEqDiff, Nat.reduceAdd, Nat.reduceMul, Nat.reduceSub, Nat.reduceLeDiff, Int.reduceToNat, Int.reduceNeg, Int.reduceLT, Int.reduceLE, Int.reduceEq, reduceCtorEq, Int.natCast_zero, Int.natCast_one, Int.cast_ofNat_Int, Bool.not_not, false_eq_decide, true_eq_decide, hread0, hreadk, read_cons0, read_consk, astore_h0, astore_hk, hget0, hgetk, hset0, hsetk, hlen, hcat, Nat.add_assoc, Nat.add_zero, Nat.zero_add, List.length_append, and_true, true_and, AV.flat, *, -hK, -hall, -sm, -hm, -h1, -hs10, -oS, -kS] | refine WC.call (sm _) ?_ | with_reducible refine IfB_dec (fun h => ?_) (fun h => ?_) | with_reducible refine Guard_dec (fun h => ?_) (fun h => ?_) | with_reducible refine Guard_ndec (fun h => ?_) (fun h => ?_) | with_reducible refine Guard_not (fun h => ?_) (fun h => ?_) | with_reducible refine IfB_ndec (fun h => ?_) (fun h => ?_) | with_reducible refine IfB_not (fun h => ?_) (fun h => ?_) | with_reducible refine Guard_split (fun h => ?_) (fun h => ?_) | with_reducible refine IfB_split (fun h => ?_) (fun h => ?_))
      exact hR _ _ (by (repeat (first | exact hs | refine hA _ _ _ (by decide) ?_))) (l.length - (i + 1)) (by omega) ⟨i + 1, rfl, by omega, by simp only [go_sem, Nat.reduceLT, Nat.reduceEqDiff, Nat.reduceAdd, Nat.reduceMul, Nat.reduceSub, Nat.reduceLeDiff, Int.reduceToNat, Int.reduceNeg, Int.reduceLT, Int.reduceLE, Int.reduceEq, reduceCtorEq], by rw [may_step hlt, hall, hm]; rfl, rfl⟩
    | false =>
      rw [hm] at sm
      have hf : l.all Chg.mayB = false := by rw [List.all_eq_false]; exact ⟨_, List.getElem_mem hlt, by simp [hm]⟩
      rw [show changesL l = ([], 8) by unfold changesL; rw [if_neg h1, if_pos hf]] at hK
      repeat' (first | simp only [go_sem, Nat.reduceLT, Nat.reduceEqDiff, Nat.reduceAdd, Nat.reduceMul, Nat.reduceSub, Nat.reduceLeDiff, Int.reduceToNat, Int.reduceNeg, Int.reduceLT, Int.reduceLE, Int.reduceEq, reduceCtorEq, Int.natCast_zero, Int.natCast_one, Int.cast_ofNat_Int, Bool.not_not, false_eq_decide, true_eq_decide, hread0, hreadk, read_cons0, read_consk, astore_h0, astore_hk, hget0, hgetk, hset0, hsetk, hlen, hcat, Nat.add_assoc, Nat.add_zero, Nat.zero_add, List.length_append, and_true, true_and, AV.flat, *, -hK, -hall, -sm, -hm, -h1, -hf, -hs10, -oS, -kS] | refine WC.call (sm _) ?_ | with_reducible refine IfB_dec (fun h => ?_) (fun h => ?_) | with_reducible refine Guard_dec (fun h => ?_) (fun h => ?_) | with_reducible refine Guard_ndec (fun h => ?_) (fun h => ?_) | with_reducible refine Guard_not (fun h => ?_) (fun h => ?_) | with_reducible refine IfB_ndec (fun h => ?_) (fun h => ?_) | with_reducible refine IfB_not (fun h => ?_) (fun h => ?_) | with_reducible refine Guard_split (fun h => ?_) (fun h => ?_) | with_reducible refine IfB_split (fun h => ?_) (fun h => ?_))
      exact hK _ _ ⟨⟨_, rfl, Ob.nils _ _⟩, kS⟩
  have hlti : ¬ (i : Int) < l.length := by omega
  have hin : i = l.length := by omega
  rw [hin, List.take_length] at hall
  have hmay : ∀ c ∈ l, c.mayB = true := List.all_eq_true.1 hall
  clear hR hA hs hg hin
  repeat' (first | simp only [go_sem, Nat.reduceLT, Nat.reduceEqDiff, Nat.reduceAdd, Nat.reduceMul, Nat.reduceSub, Nat.reduceLeDiff, Int.reduceToNat, Int.reduceNeg, Int.reduceLT, Int.reduceLE, Int.reduceEq, reduceCtorEq, Int.natCast_zero, Int.natCast_one, Int.cast_ofNat_Int, Bool.not_not, false_eq_decide, true_eq_decide, hread0, hreadk, read_cons0, read_consk, astore_h0, astore_hk, hget0, hgetk, hset0, hsetk, hlen, hcat, Nat.add_assoc, Nat.add_zero, Nat.zero_add, List.length_append, and_true, true_and, AV.flat, *, -hK, -hall, -h1, -hmay, -hs10, -oS, -kS] | with_reducible refine IfB_dec (fun h => ?_) (fun h => ?_) | with_reducible refine Guard_dec (fun h => ?_) (fun h => ?_) | with_reducible refine Guard_ndec (fun h => ?_) (fun h => ?_) | with_reducible refine Guard_not (fun h => ?_) (fun h => ?_) | with_reducible refine IfB_ndec (fun h => ?_) (fun h => ?_) | with_reducible refine IfB_not (fun h => ?_) (fun h => ?_) | with_reducible refine Guard_split (fun h => ?_) (fun h => ?_) | with_reducible refine IfB_split (fun h => ?_) (fun h => ?_))
  refine WX_loopS [0] (fun k fr' H' => ∃ (j : Nat) (a : AV), k = l.length - j ∧ j ≤ l.length ∧ fr'.get 6 = .int .i64 j ∧ fr'.get 4 = a ∧ Ob H.length H' a (small l.length ++ (l.take j).flatMap Chg.putL) ∧ (small l.length ++ (l.take j).flatMap Chg.putL).length ≤ 66536 ∧ Keep none H H') l.length ⟨0, r2, rfl, by omega, by simp only [go_sem, Nat.reduceLT, Nat.reduceEqDiff, Nat.reduceAdd, Nat.reduceMul, Nat.reduceSub, Nat.reduceLeDiff, Int.reduceToNat, Int.reduceNeg, Int.reduceLT, Int.reduceLE, Int.reduceEq, reduceCtorEq]; rfl, by simp only [go_sem, Nat.reduceLT, Nat.reduceEqDiff, Nat.reduceAdd, Nat.reduceMul, Nat.reduceSub, Nat.reduceLeDiff, Int.reduceToNat, Int.reduceNeg, Int.reduceLT, Int.reduceLE, Int.reduceEq, reduceCtorEq, s4], by simpa using oS, by simp; omega, kS⟩ ?_
  clear hlti hi f14 oS kS
  rintro k fr' H3 A R hA hs hg hR ⟨j, a, rfl, hj, f28, f6, oa, hle, kk⟩
  have s0 := hg 0 (by decide)
  simp only [Fr.get_put, Fr.get_init, List.getD_cons_zero, List.getD_cons_succ, Nat.reduceEqDiff, if_true, if_false] at s0
  have al := oa.bs.alen tk59
  refine wx_sound hT _ ?_
  by_cases hbig : (small l.length ++ (l.take j).flatMap Chg.putL).length > 65536
  · have hpp := put_part l j
    rw [show changesL l = ([], 3) by unfold changesL; rw [if_neg h1, if_neg (by rw [hall]; simp), if_pos (by simp only [List.length_append] at hbig ⊢; omega)]] at hK
    have ib : ((small l.length ++ (l.take j).flatMap Chg.putL).length : Int) > 65536 := by omega
    have ib2 : ¬ ((small l.length ++ (l.take j).flatMap Chg.putL).length : Int) ≤ 65536 := by omega
    clear hR hle hpp hbig
    generalize (small l.length ++ (l.take j).flatMap Chg.putL) = bb at *
    by_cases hlti : (j : Int) < l.length
    · repeat' (first | simp only [go_sem, Nat.reduceLT, Nat.reduceEqDiff, Nat.reduceAdd, Nat.reduceMul, Nat.reduceSub, Nat.reduceLeDiff, Int.reduceToNat, Int.reduceNeg, Int.reduceLT, Int.reduceLE, Int.reduceEq, reduceCtorEq, Int.natCast_zero, Int.natCast_one, Int.cast_ofNat_Int, Bool.not_not, false_eq_decide, true_eq_decide, hread0, hreadk, read_cons0, read_consk, astore_h0, astore_hk, hget0, hgetk, hset0, hsetk, hlen, hcat, Nat.add_assoc, Nat.add_zero, Nat.zero_add, List.length_append, and_true, true_and, AV.flat, *, -hK, -hall, -h1, -hmay, -hs10, -oa] | with_reducible refine IfB_dec (fun h => ?_) (fun h => ?_) | with_reducible refine Guard_dec (fun h => ?_) (fun h => ?_) | with_reducible refine Guard_ndec (fun h => ?_) (fun h => ?_) | with_reducible refine Guard_not (fun h => ?_) (fun h => ?_) | with_reducible refine IfB_ndec (fun h => ?_) (fun h => ?_) | with_reducible refine IfB_not (fun h => ?_) (fun h => ?_) | with_reducible refine Guard_split (fun h => ?_) (fun h => ?_) | with_reducible refine IfB_split (fun h => ?_) (fun h => ?_))
      exact hK _ _ ⟨⟨_, rfl, Ob.nils _ _⟩, kk⟩
    · repeat' (first | simp only [go_sem, Nat.reduceLT, Nat.reduceEqDiff, Nat.reduceAdd, Nat.reduceMul, Nat.reduceSub, Nat.reduceLeDiff, Int.reduceToNat, Int.reduceNeg, Int.reduceLT, Int.reduceLE, Int.reduceEq, reduceCtorEq, Int.natCast_zero, Int.natCast_one, Int.cast_ofNat_Int, Bool.not_not, false_eq_decide, true_eq_decide, hread0, hreadk, read_cons0, read_consk, astore_h0, astore_hk, hget0, hgetk, hset0, hsetk, hlen, hcat, Nat.add_assoc, Nat.add_zero, Nat.zero_add, List.length_append, and_true, true_and, AV.flat, *, -hK, -hall, -h1, -hmay, -hs10, -oa] | with_reducible refine IfB_dec (fun h => ?_) (fun h => ?_) | with_reducible refine Guard_dec (fun h => ?_) (fun h => ?_) | with_reducible refine Guard_ndec (fun h => ?_) (fun h => ?_) | with_reducible refine Guard_not (fun h => ?_) (fun h => ?_) | with_reducible refine IfB_ndec (fun h => ?_) (fun h => ?_) | with_reducible refine IfB_not (fun h => ?_) (fun h => ?_) | with_reducible refine Guard_split (fun h => ?_) (fun h => ?_) | with_reducible refine IfB_split (fun h => ?_) (fun h => ?_))
      exact hK _ _ ⟨⟨_, rfl, Ob.nils _ _⟩, kk⟩
  by_cases hlt : j < l.length
  rotate_left
  · have hlti : ¬ (j : Int) < l.length := by omega
    have hjn : j = l.length := by omega
    rw [hjn, List.take_length] at oa hle al hbig
    rw [show changesL l = (small l.length ++ l.flatMap Chg.putL, 0) by unfold changesL; rw [if_neg h1, if_neg (by rw [hall]; simp), if_neg (by omega)]] at hK
    have ib : ¬ ((small l.length ++ l.flatMap Chg.putL).length : Int) > 65536 := by omega
    clear hR hbig
    generalize (small l.length ++ l.flatMap Chg.putL) = bb at *
    repeat' (first | simp only [go_sem, Nat.reduceLT, Nat.reduceEqDiff, Nat.reduceAdd, Nat.reduceMul, Nat.reduceSub, Nat.reduceLeDiff, Int.reduceToNat, Int.reduceNeg, Int.reduceLT, Int.reduceLE, Int.reduceEq, reduceCtorEq, Int.natCast_zero, Int.natCast_one, Int.cast_ofNat_Int, Bool.not_not, false_eq_decide, true_eq_decide, hread0, hreadk, read_cons0, read_consk, astore_h0, astore_hk, hget0, hgetk, hset0, hsetk, hlen, hcat, Nat.add_assoc, Nat.add_zero, Nat.zero_add, List.length_append, and_true, true_and, AV.flat, *, -hK, -hall, -h1, -hmay, -hs10, -hle, -oa, -hjn] | with_reducible refine IfB_dec (fun h => ?_) (fun h => ?_) | with_reducible refine Guard_dec (fun h => ?_) (fun h => ?_) | with_reducible refine Guard_ndec (fun h => ?_) (fun h => ?_) | with_reducible refine Guard_not (fun h => ?_) (fun h => ?_) | with_reducible refine IfB_ndec (fun h => ?_) (fun h => ?_) | with_reducible refine IfB_not (fun h => ?_) (fun h => ?_) | with_reducible refine Guard_split (fun h => ?_) (fun h => ?_) | with_reducible refine IfB_split (fun h => ?_) (fun h => ?_))
    exact hK _ _ ⟨⟨_, rfl, oa⟩, kk⟩
  have hlti : (j : Int) < l.length := by omega
  have e1 := at_enc (E := chgE) (T := T) (k := .i64) se25 hlt rfl
  have e3 := inc_id hlt hl
  rw [chgE_cells] at e1
  have os := fun J => one_spec l[j] (ho _ (List.getElem_mem hlt)) (hmay _ (List.getElem_mem hlt)) J
  have pl := putL_len (ho _ (List.getElem_mem hlt)) (hmay _ (List.getElem_mem hlt))
  unfold Chg.av at os
  have back : ∀ fr2 r4 H4, A fr2 → Ob H.length H4 r4 (small l.length ++ (l.take (j + 1)).flatMap Chg.putL) → Keep none H H4 → fr2.get 6 = .int .i64 ((j + 1 : Nat) : Int) → fr2.get 4 = r4 → R fr2 H4 := fun fr2 r4 H4 ha o4 k4 h1 h2 => hR fr2 H4 ha (l.length - (j + 1)) (by omega) ⟨j + 1, r4, rfl, by omega, h1, h2, o4, by rw [put_step hlt]; simp only [List.length_append] at hbig ⊢; omega, k4⟩
  rw [put_step hlt, ← List.append_assoc] at back
  have ib : ((small l.length ++ (l.take j).flatMap Chg.putL).length : Int) ≤ 65536 := by omega
  clear hR
  generalize (small l.length ++ (l.take j).flatMap Chg.putL) = bb at *
  repeat' (first | simp only [go_sem, Nat.reduceLT, Nat.reduceEqDiff, Nat.reduceAdd, Nat.reduceMul, Nat.reduceSub, Nat.reduceLeDiff, Int.reduceToNat, Int.reduceNeg, Int.reduceLT, Int.reduceLE, Int.reduceEq, reduceCtorEq, Int.natCast_zero, Int.natCast_one, Int.cast_ofNat_Int, Bool.not_not, false_eq_decide, true_eq_decide, hread0, hreadk, read_cons0, read_consk, astore_h0, astore_hk, hget0, hgetk, hset0, hsetk, hlen, hcat, Nat.add_assoc, Nat.add_zero, Nat.zero_add, List.length_append, and_true, true_and, AV.flat, *, -hK, -hall, -h1, -hmay, -hs10, -hle, -oa, -os, -pl, -back, -hbig] | refine WC.call (os _) ?_ | with_reducible refine IfB_dec (fun h => ?_) (fun h => ?_) | with_reducible refine Guard_dec (fun h => ?_) (fun h => ?_) | with_reducible refine Guard_ndec (fun h => ?_) (fun h => ?_) | with_reducible refine Guard_not (fun h => ?_) (fun h => ?_) | with_reducible refine IfB_ndec (fun h => ?_) (fun h => ?_) | with_reducible refine IfB_not (fun h => ?_) (fun h => ?_) | with_reducible refine Guard_split (fun h => ?_) (fun h => ?_) | with_reducible refine IfB_split (fun h => ?_) (fun h => ?_))
  refine append_gr (m := H.length) oa se59 az5 td5 rfl (u8_src tk59) (by omega) kk.len ?_
  intro r4 H4 g4
  have k4 := g4.keep0 kk (fun b hb => oa.ge hb)
  repeat' (first | simp only [go_sem, Nat.reduceLT, Nat.reduceEqDiff, Nat.reduceAdd, Nat.reduceMul, Nat.reduceSub, Nat.reduceLeDiff, Int.reduceToNat, Int.reduceNeg, Int.reduceLT, Int.reduceLE, Int.reduceEq, reduceCtorEq, Int.natCast_zero, Int.natCast_one, Int.cast_ofNat_Int, Bool.not_not, false_eq_decide, true_eq_decide, hread0, hreadk, read_cons0, read_consk, astore_h0, astore_hk, hget0, hgetk, hset0, hsetk, hlen, hcat, Nat.add_assoc, Nat.add_zero, Nat.zero_add, List.length_append, and_true, true_and, AV.flat, *, -hK, -hall, -h1, -hmay, -hs10, -hle, -oa, -os, -pl, -back, -hbig, -k4] | with_reducible refine IfB_dec (fun h => ?_) (fun h => ?_) | with_reducible refine Guard_dec (fun h => ?_) (fun h => ?_) | with_reducible refine Guard_ndec (fun h => ?_) (fun h => ?_) | with_reducible refine Guard_not (fun h => ?_) (fun h => ?_) | with_reducible refine IfB_ndec (fun h => ?_) (fun h => ?_) | with_reducible refine IfB_not (fun h => ?_) (fun h => ?_) | with_reducible refine Guard_split (fun h => ?_) (fun h => ?_) | with_reducible refine IfB_split (fun h => ?_) (fun h => ?_))
  exact back _ _ _ (by (repeat (first | exact hs | refine hA _ _ _ (by decide) ?_))) g4.own k4 (by simp only [go_sem, Nat.reduceLT, Nat.reduceEqDiff, Nat.reduceAdd, Nat.reduceMul, Nat.reduceSub, Nat.reduceLeDiff, Int.reduceToNat, Int.reduceNeg, Int.reduceLT, Int.reduceLE, Int.reduceEq, reduceCtorEq]) (by simp only [go_sem, Nat.reduceLT, Nat.reduceEqDiff, Nat.reduceAdd, Nat.reduceMul, Nat.reduceSub, Nat.reduceLeDiff, Int.reduceToNat, Int.reduceNeg, Int.reduceLT, Int.reduceLE, Int.reduceEq, reduceCtorEq])
theorem refChanges_spec (l : List Chg) (hl : l.length ≤ 140737488355328) (ho : ∀ c ∈ l, c.Ok) (H : Heap) : WC Try.prog 52 [chgE.lst l] H fun r H' => r = .tup [Enc.u8.lst (changesL l).1, .int .i64 (changesL l).2] ∧ H' = H :=
  WC_froze (Q := fun r => r = _) ((refChanges_own l hl ho H).mono fun r H' ⟨⟨b, h1, h2⟩, h3⟩ => ⟨_, h1 ▸ Thaw.tup_row ⟨Thaw.ob h2, .int _ _, trivial⟩, h3, rfl⟩)
end Go.Proofs.Ytccfhighlpfdmaa

