import Derived.Test.YtkkgkljikmhldaaOrderE
set_option linter.unusedSimpArgs false
set_option linter.unusedVariables false
set_option maxRecDepth 100000
set_option maxHeartbeats 40000000
namespace Go.Proofs.Ytkkgkljikmhldaa
open Go Go.Proofs Go.Proofs.PI
theorem refMay_goodA (kind ten : Int) (keys : List (List UInt8)) (val : List UInt8) (fl fo un by' : Int) (hn : keys.length ≤ 140737488355328) (hk : 1 ≤ kind ∧ kind ≤ 11) (hq : keysB kind keys = true) (hcl : (¬ 2 ≤ kind ∧ kind ≤ 5 ∧ ¬ kind = 5 ∧ ¬ kind = 6 ∧ ¬ kind = 7 ∧ ¬ kind = 8 ∧ ¬ kind = 9) ∨ (2 ≤ kind ∧ kind ≤ 5 ∧ ¬ kind = 5 ∧ ¬ kind = 6 ∧ ¬ kind = 7 ∧ ¬ kind = 8 ∧ ¬ kind = 9) ∨ kind = 5 ∨ kind = 6) (H : Heap) :
    WC Try.prog 26 [Cmd.av ⟨kind, ten, keys, val, fl, fo, un, by'⟩] H fun r H' => r = .bool (cmdB ⟨kind, ten, keys, val, fl, fo, un, by'⟩) ∧ H' = H := by
  refine WC_val fun K hK => ?_
  have hks := fun J => refKeys_spec ⟨kind, ten, keys, val, fl, fo, un, by'⟩ hn J
  have hcm : cmdB ⟨kind, ten, keys, val, fl, fo, un, by'⟩ = (decide (1 ≤ kind ∧ kind ≤ 11 ∧ 0 ≤ ten ∧ ten < 4) && keysB kind keys && restB ⟨kind, ten, keys, val, fl, fo, un, by'⟩) := rfl
  have hv : (val = []) = (val.length = 0) := by rw [List.length_eq_zero_iff]
  simp only at hks
  rw [hq] at hks hcm
  unfold restB at hcm
  simp only at hcm
  unfold Cmd.av at hks ⊢
  simp only at hks ⊢
  generalize cmdB ⟨kind, ten, keys, val, fl, fo, un, by'⟩ = cb at *
  clear hq
  refine WC_of_body hT Try.func26 rfl (by simp [Try.f26]) (by simp [Try.f26]) (wx_sound hT _ ?_)
  simp only [Try.f26]
  have k1 : ¬ kind < 1 := by omega
  have k2 : ¬ 11 < kind := by omega
  rcases hcl with ⟨k3, k4, k5, k6, k7, k8, k9⟩ | ⟨k3, k4, k5, k6, k7, k8, k9⟩ | rfl | rfl
  all_goals
    repeat' (first | simp only [wx_skip, wx_region, wx_draw, wx_seq, wx_cond, wx_block, wx_exit, wx_ret, wx_loop, WDr_nil, WDr_cons, WDo_none, WDo_some, drK_eq, drU_eq, efK_eq, keepAll_nil, keepAll_true, keepAll_false, RC.ok_pure, RC.ok_load, RC.ok_slice, RC.ok_bytes, RC.ok_blk, mkRC, XThen_normal, XThen_exit, XThen_ret, XBlock_normal, XBlock_ret, XBlock_eq, WOps_nil, WOps_cons, WOp, WCall, wantd, dstOk, apure, aun, anilCheck, aextract, afieldAddr, afieldOff, afield, apart, aindexAddr_sl, aindex, aconv, amakeFunc, alen_str, alen_sl, alen_nils, alen_emp, alen_nul, alen_lst, alen_enc, one_enc, solid_enc, cells_enc, one_nul, solid_nul, cells_nul, one_lst, solid_lst, cells_lst, one_cptr, solid_cptr, cells_cptr, amin, amax, abin, aint, astr, aeq, aeqIn, aeqFs, aeqIn, aeqFs, tk, asize, asliceElem, azero, aalloc, aload, read_last_cons, abytes, abytesStr_sl, Fr.ev, cav, cav1, Fr.get_put, Fr.put_none, Fr.get_init, ares, resOf, atH_eq, opH_eq, undefK_eq, snocK_eq, callK_eq, opsK_eq, codeK_eq, bodyK_ret, bodyK_normal, On_some, On1_some, OnB_some, OnH_some, Guard_true, Guard_false, IfB_true, IfB_false, OnFn_fn, St.own, St.alive, TK.isAgg, one_int, solid_int, cells_int, one_bool, solid_bool, cells_bool, one_str, solid_str, cells_str, one_nilp, solid_nilp, cells_nilp, one_ptr, solid_ptr, cells_ptr, one_nils, solid_nils, cells_nils, one_emp, solid_emp, cells_emp, one_sl, solid_sl, cells_sl, one_fn, solid_fn, cells_fn, one_nilf, solid_nilf, cells_nilf, solid_agg, cells_agg, sliceNil_nils, sliceNil_sl, sliceNil_emp, ptrNil_nilp, ptrNil_ptr, wr, apartsFill, abuild, aplaces, reps, Nat.reduceLT, Nat.reduceEqDiff, Nat.reduceAdd, Nat.reduceMul, Nat.reduceSub, Nat.reduceLeDiff, Int.reduceToNat, Int.reduceNeg, Int.reduceLT, Int.reduceLE, Int.reduceEq, if_true, if_false, true_and, and_true, and_self, reduceCtorEq, decide_true, decide_false, Bool.and_true, Bool.true_and, Bool.and_false, Bool.false_and, Bool.not_true, Bool.not_false, Bool.false_eq_true, beq_self_eq_true, cond_true, cond_false, Option.map_some, Option.map_none, Option.bind_some, Option.bind_none, List.map_cons, List.map_nil, List.all_cons, List.all_nil, List.set_cons_zero, List.set_cons_succ, List.length_cons, List.length_nil, List.getElem?_cons_zero, List.getElem?_cons_succ, List.getD_cons_zero, List.getD_cons_succ, List.drop_zero, List.drop_succ_cons, List.take_succ_cons, List.take_zero, List.replicate_succ, List.replicate_zero, List.flatten_cons, List.flatten_nil, List.append_nil, List.nil_append, List.cons_append, Nat.le_refl, ne_eq, not_true_eq_false, not_false_eq_true, Int.natCast_zero, Bool.not_not, false_eq_decide, true_eq_decide, hread0, hreadk, read_cons0, read_consk, astore_h0, astore_hk, hget0, hgetk, hset0, hsetk, hlen, hcat, Nat.add_assoc, Nat.add_zero, Nat.zero_add, List.length_append, and_true, true_and, AV.flat, td3, td4, td5, td9, td22, td23, td24, td25, td26, *, -hK, -hks, -hcm, -hk] | refine WC.call (hks _) ?_ | with_reducible refine IfB_dec (fun h => ?_) (fun h => ?_) | with_reducible refine Guard_dec (fun h => ?_) (fun h => ?_) | with_reducible refine Guard_ndec (fun h => ?_) (fun h => ?_) | with_reducible refine Guard_not (fun h => ?_) (fun h => ?_) | with_reducible refine IfB_ndec (fun h => ?_) (fun h => ?_) | with_reducible refine IfB_not (fun h => ?_) (fun h => ?_) | with_reducible refine Guard_split (fun h => ?_) (fun h => ?_) | with_reducible refine IfB_split (fun h => ?_) (fun h => ?_))
    all_goals
      refine hK _ _ (Thaw.of_eq ?_ rfl) (Keep.app _ _ _)
      congr 1
      rw [hcm, Bool.eq_iff_iff]
      clear hK hks hcm hv
      simp only [Bool.and_eq_true, Bool.false_eq_true, decide_eq_true_eq, and_true, true_and, false_and, and_false, false_iff, true_iff, not_false_eq_true, or_true, true_or]
      try omega
end Go.Proofs.Ytkkgkljikmhldaa
