import Derived.Test.YtakmlfbejbelaaaCodeA
import Derived.Test.YtakmlfbejbelaaaCodeX
set_option linter.unusedSimpArgs false
set_option linter.unusedVariables false
set_option maxRecDepth 100000
set_option maxHeartbeats 2000000
namespace Go.Proofs.Ytakmlfbejbelaaa
open Go Go.Proofs Go.Proofs.PI
theorem alive_spec (H : Heap) : WC Try.prog 35 [] H fun r H' => r = .bool true ∧ H' = H := closed_true (k := 100) (by kernel_rfl) H
theorem hashP (s : List UInt8) (hs : s.length ≤ 140737488355328) (H : Heap) : WC Try.prog 14 [.str s] H fun r H' => r = .int .u64 (hash s) ∧ H' = H :=
  WC_froze (Q := fun r => r = _) ((hash_spec s hs H).mono fun r H' ⟨h1, h2⟩ => ⟨_, by rw [h1]; exact .int _ _, h2, rfl⟩)
theorem shardP (t : Int) (k : List UInt8) (n : Int) (hk : k.length ≤ 100000) (H : Heap) : WC Try.prog 12 [.int .i64 t, .str k, .int .i64 n] H fun r H' => r = .tup [.int .i64 (shardL t k n).1, .int .i64 (shardL t k n).2] ∧ H' = H :=
  WC_froze (Q := fun r => r = _) ((shard_spec t k n hk H).mono fun r H' ⟨h1, h2⟩ => ⟨_, by rw [h1]; exact Thaw.tup_row ⟨.int _ _, .int _ _, trivial⟩, h2, rfl⟩)
theorem hstep_fold (h : Int) (b : UInt8) : IntKind.u64.wrap (IntKind.u64.wrap (BitVec.ofInt IntKind.u64.bits h ^^^ BitVec.ofInt IntKind.u64.bits (IntKind.u64.wrap b.toNat)).toNat * 1099511628211) = hstep h b := rfl
theorem hstep_nn (h : Int) (b : UInt8) : 0 ≤ hstep h b := by unfold hstep; rw [IntKind.wrap_u64]; omega
theorem foldl_nn : ∀ (l : List UInt8) (h : Int), 0 ≤ h → 0 ≤ l.foldl hstep h
  | [], h, hh => hh
  | b :: l, h, hh => foldl_nn l _ (hstep_nn h b)
theorem hash_nn (s : List UInt8) : 0 ≤ hash s := foldl_nn s _ (by decide)
theorem hash_last (s : List UInt8) (b : UInt8) : hash (s ++ [b]) = hstep (hash s) b := by unfold hash; rw [List.foldl_append]; rfl
theorem shard_in {t : Int} {k : List UInt8} {n : Int} (h : (shardL t k n).2 = 0) : 0 ≤ (shardL t k n).1 ∧ (shardL t k n).1 < n ∧ (shardL t k 1) = (0, 0) := by
  unfold shardL at h ⊢
  by_cases h1 : ¬ (0 ≤ t ∧ t < 4)
  · rw [if_pos h1] at h; cases h
  by_cases h2 : keyB k = false
  · rw [if_neg h1, if_pos h2] at h; cases h
  by_cases h3 : n < 1 ∨ n > 4
  · rw [if_neg h1, if_neg h2, if_pos h3] at h; cases h
  rw [if_neg h1, if_neg h2, if_neg h3, if_neg h1, if_neg h2, if_neg (by omega)]
  have hn : IntKind.u64.wrap n = n := by rw [IntKind.wrap_u64]; omega
  have h0 := Int.tmod_nonneg n (hash_nn (tbyte t :: k))
  have h4 := Int.tmod_lt_of_pos (hash (tbyte t :: k)) (show 0 < n by omega)
  have hw : IntKind.i64.wrap ((hash (tbyte t :: k)).tmod n) = (hash (tbyte t :: k)).tmod n := i64_id _ (by omega) (by omega)
  have h5 : IntKind.u64.wrap 1 = 1 := by rw [IntKind.wrap_u64]; rfl
  rw [hn]
  refine ⟨by simp only [hw]; exact h0, by simp only [hw]; exact h4, ?_⟩
  rw [h5, Int.tmod_one]; rfl
theorem shard_bad {t : Int} {k : List UInt8} {n : Int} (h : (shardL t k n).2 ≠ 0) : (shardL t k n).1 = 0 := by
  unfold shardL at h ⊢
  by_cases h1 : ¬ (0 ≤ t ∧ t < 4)
  · rw [if_pos h1]
  by_cases h2 : keyB k = false
  · rw [if_neg h1, if_pos h2]
  by_cases h3 : n < 1 ∨ n > 4
  · rw [if_neg h1, if_neg h2, if_pos h3]
  · rw [if_neg h1, if_neg h2, if_neg h3] at h; exact absurd rfl h
theorem codePlace_walk (avs : List AV) (h : InpPAll T 9 [3, 9, 3, 9, 5] avs) : WC Try.prog 9 avs [] fun v _ => v = .bool true := by
  obtain ⟨a0, _, rfl, h0, h⟩ := h.cons
  obtain ⟨a1, _, rfl, h1, h⟩ := h.cons
  obtain ⟨a2, _, rfl, h2, h⟩ := h.cons
  obtain ⟨a3, _, rfl, h3, h⟩ := h.cons
  obtain ⟨a4, _, rfl, h4, h⟩ := h.cons
  obtain rfl := h.nil
  obtain ⟨t, rfl, -⟩ := h0.int tk3
  obtain ⟨k, rfl, -⟩ := h1.str tk9
  obtain ⟨n, rfl, -⟩ := h2.int tk3
  obtain ⟨s, rfl, -⟩ := h3.str tk9
  obtain ⟨z, rfl, hz⟩ := h4.int tk5
  obtain ⟨b, rfl⟩ := u8_wf hz
  clear h0 h1 h2 h3 h4 h hz
  generalize ([] : Heap) = H
  refine WC_of_K fun K hK => ?_
  refine WC_of_body hT Try.func9 rfl (by simp [Try.f9]) (by simp [Try.f9]) (wx_sound hT _ ?_)
  simp only [Try.f9]
  repeat' (first | simp only [wx_skip, wx_region, wx_draw, wx_seq, wx_cond, wx_block, wx_exit, wx_ret, wx_loop, WDr_nil, WDr_cons, WDo_none, WDo_some, drK_eq, drU_eq, efK_eq, keepAll_nil, keepAll_true, keepAll_false, RC.ok_pure, RC.ok_load, RC.ok_slice, RC.ok_bytes, RC.ok_blk, mkRC, XThen_normal, XThen_exit, XThen_ret, XBlock_normal, XBlock_ret, XBlock_eq, WOps_nil, WOps_cons, WOp, WCall, wantd, dstOk, apure, aun, anilCheck, aextract, afieldAddr, afieldOff, afield, apart, aindexAddr_sl, aindex, aconv, amakeFunc, alen_str, alen_sl, alen_nils, alen_emp, alen_nul, alen_lst, alen_enc, one_enc, solid_enc, cells_enc, one_nul, solid_nul, cells_nul, one_lst, solid_lst, cells_lst, one_cptr, solid_cptr, cells_cptr, amin, amax, abin, aint, astr, aeq, aeqIn, aeqFs, aeqIn, aeqFs, tk, asize, asliceElem, azero, aalloc, aload, read_last_cons, abytes, abytesStr_sl, Fr.ev, cav, cav1, Fr.get_put, Fr.put_none, Fr.get_init, ares, resOf, atH_eq, opH_eq, undefK_eq, snocK_eq, callK_eq, opsK_eq, codeK_eq, bodyK_ret, bodyK_normal, On_some, On1_some, OnB_some, OnH_some, Guard_true, Guard_false, IfB_true, IfB_false, OnFn_fn, St.own, St.alive, TK.isAgg, one_int, solid_int, cells_int, one_bool, solid_bool, cells_bool, one_str, solid_str, cells_str, one_nilp, solid_nilp, cells_nilp, one_ptr, solid_ptr, cells_ptr, one_nils, solid_nils, cells_nils, one_emp, solid_emp, cells_emp, one_sl, solid_sl, cells_sl, one_fn, solid_fn, cells_fn, one_nilf, solid_nilf, cells_nilf, solid_agg, cells_agg, sliceNil_nils, sliceNil_sl, sliceNil_emp, ptrNil_nilp, ptrNil_ptr, wr, apartsFill, abuild, aplaces, reps, Nat.reduceLT, Nat.reduceEqDiff, Nat.reduceAdd, Nat.reduceMul, Nat.reduceSub, Nat.reduceLeDiff, Int.reduceToNat, Int.reduceNeg, Int.reduceLT, Int.reduceLE, Int.reduceEq, if_true, if_false, true_and, and_true, and_self, reduceCtorEq, decide_true, decide_false, Bool.and_true, Bool.true_and, Bool.and_false, Bool.false_and, Bool.not_true, Bool.not_false, Bool.false_eq_true, beq_self_eq_true, cond_true, cond_false, Option.map_some, Option.map_none, Option.bind_some, Option.bind_none, List.map_cons, List.map_nil, List.all_cons, List.all_nil, List.set_cons_zero, List.set_cons_succ, List.length_cons, List.length_nil, List.getElem?_cons_zero, List.getElem?_cons_succ, List.getD_cons_zero, List.getD_cons_succ, List.drop_zero, List.drop_succ_cons, List.take_succ_cons, List.take_zero, List.replicate_succ, List.replicate_zero, List.flatten_cons, List.flatten_nil, List.append_nil, List.nil_append, List.cons_append, Nat.le_refl, ne_eq, not_true_eq_false, not_false_eq_true, Int.natCast_zero, Bool.not_not, false_eq_decide, true_eq_decide, hread0, hreadk, read_cons0, read_consk, astore_h0, astore_hk, hget0, hgetk, hset0, hsetk, hlen, hcat, Nat.add_assoc, Nat.add_zero, Nat.zero_add, List.length_append, and_true, true_and, AV.flat, td3, td4, td5, td9, td22, td27, td30, *, -hK] | refine WC.call (alive_spec _) ?_ | with_reducible refine IfB_dec (fun h => ?_) (fun h => ?_) | with_reducible refine Guard_dec (fun h => ?_) (fun h => ?_) | with_reducible refine Guard_ndec (fun h => ?_) (fun h => ?_) | with_reducible refine Guard_not (fun h => ?_) (fun h => ?_) | with_reducible refine IfB_ndec (fun h => ?_) (fun h => ?_) | with_reducible refine IfB_not (fun h => ?_) (fun h => ?_) | with_reducible refine Guard_split (fun h => ?_) (fun h => ?_) | with_reducible refine IfB_split (fun h => ?_) (fun h => ?_))
  case refine_1.refine_2 =>
    have l1 : s.length ≤ 10000 := by omega
    have l2 : k.length ≤ 100000 := by omega
    have l3 : s.length ≤ 9223372036854775806 := by omega
    have l4 : s.length ≤ 140737488355328 := by omega
    have l5 : (s ++ [b]).length ≤ 140737488355328 := by simp; omega
    have ea : astr .add s [b] = some (.str (s ++ [b])) := by unfold astr; exact if_pos (by simp; omega)
    have hh := hashP (s ++ [b]) l5
    rw [hash_last s b] at hh
    have h2 := hashP s l4
    generalize hash s = z at hh h2
    obtain ⟨y, hy⟩ : ∃ y, y = hstep z b := ⟨_, rfl⟩
    have hy2 := hstep_fold z b
    rw [← hy] at hh hy2
    clear hy
    by_cases hs : (shardL t k n).2 = 0
    · obtain ⟨q1, q2, q3⟩ := shard_in hs
      repeat' (first | simp only [wx_skip, wx_region, wx_draw, wx_seq, wx_cond, wx_block, wx_exit, wx_ret, wx_loop, WDr_nil, WDr_cons, WDo_none, WDo_some, drK_eq, drU_eq, efK_eq, keepAll_nil, keepAll_true, keepAll_false, RC.ok_pure, RC.ok_load, RC.ok_slice, RC.ok_bytes, RC.ok_blk, mkRC, XThen_normal, XThen_exit, XThen_ret, XBlock_normal, XBlock_ret, XBlock_eq, WOps_nil, WOps_cons, WOp, WCall, wantd, dstOk, apure, aun, anilCheck, aextract, afieldAddr, afieldOff, afield, apart, aindexAddr_sl, aindex, aconv, amakeFunc, alen_str, alen_sl, alen_nils, alen_emp, alen_nul, alen_lst, alen_enc, one_enc, solid_enc, cells_enc, one_nul, solid_nul, cells_nul, one_lst, solid_lst, cells_lst, one_cptr, solid_cptr, cells_cptr, amin, amax, abin, aint, aeq, aeqIn, aeqFs, aeqIn, aeqFs, tk, asize, asliceElem, azero, aalloc, aload, read_last_cons, abytes, abytesStr_sl, Fr.ev, cav, cav1, Fr.get_put, Fr.put_none, Fr.get_init, ares, resOf, atH_eq, opH_eq, undefK_eq, snocK_eq, callK_eq, opsK_eq, codeK_eq, bodyK_ret, bodyK_normal, On_some, On1_some, OnB_some, OnH_some, Guard_true, Guard_false, IfB_true, IfB_false, OnFn_fn, St.own, St.alive, TK.isAgg, one_int, solid_int, cells_int, one_bool, solid_bool, cells_bool, one_str, solid_str, cells_str, one_nilp, solid_nilp, cells_nilp, one_ptr, solid_ptr, cells_ptr, one_nils, solid_nils, cells_nils, one_emp, solid_emp, cells_emp, one_sl, solid_sl, cells_sl, one_fn, solid_fn, cells_fn, one_nilf, solid_nilf, cells_nilf, solid_agg, cells_agg, sliceNil_nils, sliceNil_sl, sliceNil_emp, ptrNil_nilp, ptrNil_ptr, wr, apartsFill, abuild, aplaces, reps, Nat.reduceLT, Nat.reduceEqDiff, Nat.reduceAdd, Nat.reduceMul, Nat.reduceSub, Nat.reduceLeDiff, Int.reduceToNat, Int.reduceNeg, Int.reduceLT, Int.reduceLE, Int.reduceEq, if_true, if_false, true_and, and_true, and_self, reduceCtorEq, decide_true, decide_false, Bool.and_true, Bool.true_and, Bool.and_false, Bool.false_and, Bool.not_true, Bool.not_false, Bool.false_eq_true, beq_self_eq_true, cond_true, cond_false, Option.map_some, Option.map_none, Option.bind_some, Option.bind_none, List.map_cons, List.map_nil, List.all_cons, List.all_nil, List.set_cons_zero, List.set_cons_succ, List.length_cons, List.length_nil, List.getElem?_cons_zero, List.getElem?_cons_succ, List.getD_cons_zero, List.getD_cons_succ, List.drop_zero, List.drop_succ_cons, List.take_succ_cons, List.take_zero, List.replicate_succ, List.replicate_zero, List.flatten_cons, List.flatten_nil, List.append_nil, List.nil_append, List.cons_append, Nat.le_refl, ne_eq, not_true_eq_false, not_false_eq_true, Int.natCast_zero, Bool.not_not, false_eq_decide, true_eq_decide, hread0, hreadk, read_cons0, read_consk, astore_h0, astore_hk, hget0, hgetk, hset0, hsetk, hlen, hcat, Nat.add_assoc, Nat.add_zero, Nat.zero_add, List.length_append, and_true, true_and, AV.flat, td3, td4, td5, td9, td22, td27, td30, Int.toNat_natCast, UInt8.ofNat_toNat, *, -hK, -hh, -h2] | refine WC.call (hh _) ?_ | refine WC.call (h2 _) ?_ | refine WC.call (shardP t k n l2 _) ?_ | refine WC.call (shardP t k 1 l2 _) ?_ | with_reducible refine IfB_dec (fun h => ?_) (fun h => ?_) | with_reducible refine Guard_dec (fun h => ?_) (fun h => ?_) | with_reducible refine Guard_ndec (fun h => ?_) (fun h => ?_) | with_reducible refine Guard_not (fun h => ?_) (fun h => ?_) | with_reducible refine IfB_ndec (fun h => ?_) (fun h => ?_) | with_reducible refine IfB_not (fun h => ?_) (fun h => ?_) | with_reducible refine Guard_split (fun h => ?_) (fun h => ?_) | with_reducible refine IfB_split (fun h => ?_) (fun h => ?_))
      all_goals first
        | with_reducible exact hK _ _ rfl
        | (exfalso; omega)
        | trace_state
    · have q1 := shard_bad hs
      repeat' (first | simp only [wx_skip, wx_region, wx_draw, wx_seq, wx_cond, wx_block, wx_exit, wx_ret, wx_loop, WDr_nil, WDr_cons, WDo_none, WDo_some, drK_eq, drU_eq, efK_eq, keepAll_nil, keepAll_true, keepAll_false, RC.ok_pure, RC.ok_load, RC.ok_slice, RC.ok_bytes, RC.ok_blk, mkRC, XThen_normal, XThen_exit, XThen_ret, XBlock_normal, XBlock_ret, XBlock_eq, WOps_nil, WOps_cons, WOp, WCall, wantd, dstOk, apure, aun, anilCheck, aextract, afieldAddr, afieldOff, afield, apart, aindexAddr_sl, aindex, aconv, amakeFunc, alen_str, alen_sl, alen_nils, alen_emp, alen_nul, alen_lst, alen_enc, one_enc, solid_enc, cells_enc, one_nul, solid_nul, cells_nul, one_lst, solid_lst, cells_lst, one_cptr, solid_cptr, cells_cptr, amin, amax, abin, aint, aeq, aeqIn, aeqFs, aeqIn, aeqFs, tk, asize, asliceElem, azero, aalloc, aload, read_last_cons, abytes, abytesStr_sl, Fr.ev, cav, cav1, Fr.get_put, Fr.put_none, Fr.get_init, ares, resOf, atH_eq, opH_eq, undefK_eq, snocK_eq, callK_eq, opsK_eq, codeK_eq, bodyK_ret, bodyK_normal, On_some, On1_some, OnB_some, OnH_some, Guard_true, Guard_false, IfB_true, IfB_false, OnFn_fn, St.own, St.alive, TK.isAgg, one_int, solid_int, cells_int, one_bool, solid_bool, cells_bool, one_str, solid_str, cells_str, one_nilp, solid_nilp, cells_nilp, one_ptr, solid_ptr, cells_ptr, one_nils, solid_nils, cells_nils, one_emp, solid_emp, cells_emp, one_sl, solid_sl, cells_sl, one_fn, solid_fn, cells_fn, one_nilf, solid_nilf, cells_nilf, solid_agg, cells_agg, sliceNil_nils, sliceNil_sl, sliceNil_emp, ptrNil_nilp, ptrNil_ptr, wr, apartsFill, abuild, aplaces, reps, Nat.reduceLT, Nat.reduceEqDiff, Nat.reduceAdd, Nat.reduceMul, Nat.reduceSub, Nat.reduceLeDiff, Int.reduceToNat, Int.reduceNeg, Int.reduceLT, Int.reduceLE, Int.reduceEq, if_true, if_false, true_and, and_true, and_self, reduceCtorEq, decide_true, decide_false, Bool.and_true, Bool.true_and, Bool.and_false, Bool.false_and, Bool.not_true, Bool.not_false, Bool.false_eq_true, beq_self_eq_true, cond_true, cond_false, Option.map_some, Option.map_none, Option.bind_some, Option.bind_none, List.map_cons, List.map_nil, List.all_cons, List.all_nil, List.set_cons_zero, List.set_cons_succ, List.length_cons, List.length_nil, List.getElem?_cons_zero, List.getElem?_cons_succ, List.getD_cons_zero, List.getD_cons_succ, List.drop_zero, List.drop_succ_cons, List.take_succ_cons, List.take_zero, List.replicate_succ, List.replicate_zero, List.flatten_cons, List.flatten_nil, List.append_nil, List.nil_append, List.cons_append, Nat.le_refl, ne_eq, not_true_eq_false, not_false_eq_true, Int.natCast_zero, Bool.not_not, false_eq_decide, true_eq_decide, hread0, hreadk, read_cons0, read_consk, astore_h0, astore_hk, hget0, hgetk, hset0, hsetk, hlen, hcat, Nat.add_assoc, Nat.add_zero, Nat.zero_add, List.length_append, and_true, true_and, AV.flat, td3, td4, td5, td9, td22, td27, td30, Int.toNat_natCast, UInt8.ofNat_toNat, *, -hK, -hh, -h2] | refine WC.call (hh _) ?_ | refine WC.call (h2 _) ?_ | refine WC.call (shardP t k n l2 _) ?_ | refine WC.call (shardP t k 1 l2 _) ?_ | with_reducible refine IfB_dec (fun h => ?_) (fun h => ?_) | with_reducible refine Guard_dec (fun h => ?_) (fun h => ?_) | with_reducible refine Guard_ndec (fun h => ?_) (fun h => ?_) | with_reducible refine Guard_not (fun h => ?_) (fun h => ?_) | with_reducible refine IfB_ndec (fun h => ?_) (fun h => ?_) | with_reducible refine IfB_not (fun h => ?_) (fun h => ?_) | with_reducible refine Guard_split (fun h => ?_) (fun h => ?_) | with_reducible refine IfB_split (fun h => ?_) (fun h => ?_))
      all_goals first
        | with_reducible exact hK _ _ rfl
        | (exfalso; omega)
        | trace_state
  all_goals with_reducible exact hK _ _ rfl
end Go.Proofs.Ytakmlfbejbelaaa
