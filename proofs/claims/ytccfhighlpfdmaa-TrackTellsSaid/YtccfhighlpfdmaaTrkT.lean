import Derived.Test.YtccfhighlpfdmaaTrkS
set_option linter.unusedSimpArgs false
set_option linter.unusedVariables false
set_option maxRecDepth 100000
set_option maxHeartbeats 4000000
namespace Go.Proofs.Ytccfhighlpfdmaa
open Go Go.Proofs Go.Proofs.PI
/-! ### names in own memory -/
theorem nmIdxF_own (m : Nat) (v : AV) (xs : List Nm) (g : FuncId) (cs : List AV) (p : Nm → Bool) (hn : xs.length ≤ 140737488355328) (H : Heap) (hv : OwnE (nmE) m H v xs) (hp : ∀ x ∈ xs, WC Try.prog g (Nm.av x :: cs) H fun r H' => r = .bool (p x) ∧ H' = H) :
    WC Try.prog 59 [v, .fn g [] cs] H fun r H' => r = .int .i64 (idxI (xs.findIdx? p)) ∧ H' = H := by
  refine WC_of_K fun K hK => ?_
  refine WC_of_body hT Try.func59 rfl (by simp [Try.f59]) (by simp [Try.f59]) (wx_sound hT _ ?_)
  simp only [Try.f59]
  have e0 := hv.alen (by decide) tk34
  repeat' (first | simp only [go_sem, Nat.reduceLT, Nat.reduceEqDiff, Nat.reduceAdd, Nat.reduceMul, Nat.reduceSub, Nat.reduceLeDiff, Int.reduceToNat, Int.reduceNeg, Int.reduceLT, Int.reduceLE, Int.reduceEq, reduceCtorEq, Int.natCast_zero, Int.natCast_one, Int.cast_ofNat_Int, Bool.not_not, false_eq_decide, true_eq_decide, hread0, hreadk, read_cons0, read_consk, astore_h0, astore_hk, hget0, hgetk, hset0, hsetk, hlen, hcat, Nat.add_assoc, Nat.add_zero, Nat.zero_add, List.length_append, and_true, true_and, AV.flat, *, -hK] | with_reducible refine IfB_dec (fun h => ?_) (fun h => ?_) | with_reducible refine Guard_dec (fun h => ?_) (fun h => ?_) | with_reducible refine Guard_ndec (fun h => ?_) (fun h => ?_) | with_reducible refine Guard_not (fun h => ?_) (fun h => ?_) | with_reducible refine IfB_ndec (fun h => ?_) (fun h => ?_) | with_reducible refine IfB_not (fun h => ?_) (fun h => ?_) | with_reducible refine Guard_split (fun h => ?_) (fun h => ?_) | with_reducible refine IfB_split (fun h => ?_) (fun h => ?_))
  refine WX_loopS [0, 1, 7] (fun k fr' H' => ∃ i : Nat, k = xs.length - i ∧ i ≤ xs.length ∧ fr'.get 8 = .int .i64 i ∧ H' = H ∧ ∀ j (hj : j < i) (hx : j < xs.length), p xs[j] = false) xs.length ⟨0, rfl, by omega, by simp only [go_sem, Nat.reduceLT, Nat.reduceEqDiff, Nat.reduceAdd, Nat.reduceMul, Nat.reduceSub, Nat.reduceLeDiff, Int.reduceToNat, Int.reduceNeg, Int.reduceLT, Int.reduceLE, Int.reduceEq, reduceCtorEq]; rfl, rfl, fun j hj => by omega⟩ ?_
  rintro k fr' H' A R hA hs hg hR ⟨i, rfl, hi, f8, rfl, hno⟩
  have s0 := hg 0 (by decide)
  have s1 := hg 1 (by decide)
  have s7 := hg 7 (by decide)
  simp only [Fr.get_put, Fr.get_init, List.getD_cons_zero, List.getD_cons_succ, Nat.reduceEqDiff, if_true, if_false] at s0 s1 s7
  refine wx_sound hT _ ?_
  repeat' (first | simp only [go_sem, Nat.reduceLT, Nat.reduceEqDiff, Nat.reduceAdd, Nat.reduceMul, Nat.reduceSub, Nat.reduceLeDiff, Int.reduceToNat, Int.reduceNeg, Int.reduceLT, Int.reduceLE, Int.reduceEq, reduceCtorEq, Int.natCast_zero, Int.natCast_one, Int.cast_ofNat_Int, Bool.not_not, false_eq_decide, true_eq_decide, hread0, hreadk, read_cons0, read_consk, astore_h0, astore_hk, hget0, hgetk, hset0, hsetk, hlen, hcat, Nat.add_assoc, Nat.add_zero, Nat.zero_add, List.length_append, and_true, true_and, AV.flat, *, -hK] | with_reducible refine IfB_dec (fun h => ?_) (fun h => ?_) | with_reducible refine Guard_dec (fun h => ?_) (fun h => ?_) | with_reducible refine Guard_ndec (fun h => ?_) (fun h => ?_) | with_reducible refine Guard_not (fun h => ?_) (fun h => ?_) | with_reducible refine IfB_ndec (fun h => ?_) (fun h => ?_) | with_reducible refine IfB_not (fun h => ?_) (fun h => ?_) | with_reducible refine Guard_split (fun h => ?_) (fun h => ?_) | with_reducible refine IfB_split (fun h => ?_) (fun h => ?_))
  case refine_1 =>
    have hlt : i < xs.length := by omega
    obtain ⟨b, o, e1, e2, -⟩ := hv.at_ (by decide) se34 hlt (k := .i64) rfl
    rw [show (nmE).sz = 2 from rfl] at e2
    have e3 := inc_id hlt hn
    repeat' (first | simp only [go_sem, Nat.reduceLT, Nat.reduceEqDiff, Nat.reduceAdd, Nat.reduceMul, Nat.reduceSub, Nat.reduceLeDiff, Int.reduceToNat, Int.reduceNeg, Int.reduceLT, Int.reduceLE, Int.reduceEq, reduceCtorEq, Int.natCast_zero, Int.natCast_one, Int.cast_ofNat_Int, Bool.not_not, false_eq_decide, true_eq_decide, hread0, hreadk, read_cons0, read_consk, astore_h0, astore_hk, hget0, hgetk, hset0, hsetk, hlen, hcat, Nat.add_assoc, Nat.add_zero, Nat.zero_add, List.length_append, and_true, true_and, AV.flat, nmE_cells, Nm.av, *, -hK] | refine WC.call (hp _ (List.getElem_mem hlt)) ?_ | with_reducible refine IfB_dec (fun h => ?_) (fun h => ?_) | with_reducible refine Guard_dec (fun h => ?_) (fun h => ?_) | with_reducible refine Guard_ndec (fun h => ?_) (fun h => ?_) | with_reducible refine Guard_not (fun h => ?_) (fun h => ?_) | with_reducible refine IfB_ndec (fun h => ?_) (fun h => ?_) | with_reducible refine IfB_not (fun h => ?_) (fun h => ?_) | with_reducible refine Guard_split (fun h => ?_) (fun h => ?_) | with_reducible refine IfB_split (fun h => ?_) (fun h => ?_))
    case refine_1 =>
      refine hK _ _ ⟨?_, rfl⟩
      have : xs.findIdx? p = some i := by
        rw [List.findIdx?_eq_some_iff_getElem]
        exact ⟨hlt, h, fun j hj => by rw [hno j hj (by omega)]; simp⟩
      rw [this]; rfl
    case refine_2 =>
      refine hR _ _ (by (repeat (first | exact hs | refine hA _ _ _ (by decide) ?_))) (xs.length - (i + 1)) (by omega) ⟨i + 1, rfl, by omega, by simp only [go_sem, Nat.reduceLT, Nat.reduceEqDiff, Nat.reduceAdd, Nat.reduceMul, Nat.reduceSub, Nat.reduceLeDiff, Int.reduceToNat, Int.reduceNeg, Int.reduceLT, Int.reduceLE, Int.reduceEq, reduceCtorEq], rfl, fun j hj hx => ?_⟩
      · by_cases e : j = i
        · subst e; exact h
        · exact hno j (by omega) hx
  case refine_2 =>
    repeat' (first | simp only [go_sem, Nat.reduceLT, Nat.reduceEqDiff, Nat.reduceAdd, Nat.reduceMul, Nat.reduceSub, Nat.reduceLeDiff, Int.reduceToNat, Int.reduceNeg, Int.reduceLT, Int.reduceLE, Int.reduceEq, reduceCtorEq, Int.natCast_zero, Int.natCast_one, Int.cast_ofNat_Int, Bool.not_not, false_eq_decide, true_eq_decide, hread0, hreadk, read_cons0, read_consk, astore_h0, astore_hk, hget0, hgetk, hset0, hsetk, hlen, hcat, Nat.add_assoc, Nat.add_zero, Nat.zero_add, List.length_append, and_true, true_and, AV.flat, *, -hK] | with_reducible refine IfB_dec (fun h => ?_) (fun h => ?_) | with_reducible refine Guard_dec (fun h => ?_) (fun h => ?_) | with_reducible refine Guard_ndec (fun h => ?_) (fun h => ?_) | with_reducible refine Guard_not (fun h => ?_) (fun h => ?_) | with_reducible refine IfB_ndec (fun h => ?_) (fun h => ?_) | with_reducible refine IfB_not (fun h => ?_) (fun h => ?_) | with_reducible refine Guard_split (fun h => ?_) (fun h => ?_) | with_reducible refine IfB_split (fun h => ?_) (fun h => ?_))
    refine hK _ _ ⟨?_, rfl⟩
    have : xs.findIdx? p = none := by
      rw [List.findIdx?_eq_none_iff]
      intro x hx
      obtain ⟨j, hj, rfl⟩ := List.getElem_of_mem hx
      exact hno j (by omega) hj
    rw [this]; rfl
theorem nclone_own (xs : List Nm) (hn : xs.length ≤ 1000000) (H : Heap) : WC Try.prog 58 [(nmE).lst xs] H fun r H' => OwnE (nmE) H.length H' r xs ∧ Keep none H H' := by
  refine WC_of_K fun K hK => ?_
  cases xs with
  | nil =>
    refine WC_lst0 (pre := []) (post := []) ?_ ?_
    · skip
      refine WC_of_body hT Try.func58 rfl (by simp [Try.f58]) (by simp [Try.f58]) (wx_sound hT _ ?_)
      simp only [Try.f58]
      repeat' (first | simp only [go_sem, Nat.reduceLT, Nat.reduceEqDiff, Nat.reduceAdd, Nat.reduceMul, Nat.reduceSub, Nat.reduceLeDiff, Int.reduceToNat, Int.reduceNeg, Int.reduceLT, Int.reduceLE, Int.reduceEq, reduceCtorEq, Int.natCast_zero, Int.natCast_one, Int.cast_ofNat_Int, Bool.not_not, false_eq_decide, true_eq_decide, hread0, hreadk, read_cons0, read_consk, astore_h0, astore_hk, hget0, hgetk, hset0, hsetk, hlen, hcat, Nat.add_assoc, Nat.add_zero, Nat.zero_add, List.length_append, and_true, true_and, AV.flat, *, -hK] | with_reducible refine IfB_dec (fun h => ?_) (fun h => ?_) | with_reducible refine Guard_dec (fun h => ?_) (fun h => ?_) | with_reducible refine Guard_ndec (fun h => ?_) (fun h => ?_) | with_reducible refine Guard_not (fun h => ?_) (fun h => ?_) | with_reducible refine IfB_ndec (fun h => ?_) (fun h => ?_) | with_reducible refine IfB_not (fun h => ?_) (fun h => ?_) | with_reducible refine Guard_split (fun h => ?_) (fun h => ?_) | with_reducible refine IfB_split (fun h => ?_) (fun h => ?_))
      exact hK _ _ ⟨OwnE.nils _ _ _, Keep.refl _ _⟩
    · skip
      refine WC_of_body hT Try.func58 rfl (by simp [Try.f58]) (by simp [Try.f58]) (wx_sound hT _ ?_)
      simp only [Try.f58]
      simp only [go_sem, Nat.reduceLT, Nat.reduceEqDiff, Nat.reduceAdd, Nat.reduceMul, Nat.reduceSub, Nat.reduceLeDiff, Int.reduceToNat, Int.reduceNeg, Int.reduceLT, Int.reduceLE, Int.reduceEq, reduceCtorEq]
      refine append_enc (E := nmE) (xs := []) (ys := []) (m := H.length) (.inr ⟨H.length, 0, .full, [], rfl, Nat.le_refl _, get_last _ _, rfl, rfl⟩) se34 az38 td38 ?_ (by decide) (by simp) (by simp) ?_
      · simp only [asrc, tk34]; rfl
      · intro v' H1 h1 h2 h3
        simp only [go_sem, Nat.reduceLT, Nat.reduceEqDiff, Nat.reduceAdd, Nat.reduceMul, Nat.reduceSub, Nat.reduceLeDiff, Int.reduceToNat, Int.reduceNeg, Int.reduceLT, Int.reduceLE, Int.reduceEq, reduceCtorEq]
        exact hK _ _ ⟨h1, Keep.new (Keep.snoc none H _) h2 (Nat.le_refl _)⟩
  | cons x xs =>
    have hnil : AV.sliceNil ((nmE).lst (x :: xs)) = some false := rfl
    have hbin : abin T .eql 34 ((nmE).lst (x :: xs)) .nils = some (.bool false) := by simp only [abin, tk34, Enc.lst, AV.sliceNil]; rw [if_pos (by simp)]; rfl
    refine WC_of_body hT Try.func58 rfl (by simp [Try.f58]) (by simp [Try.f58]) (wx_sound hT _ ?_)
    simp only [Try.f58]
    simp only [wx_skip, wx_region, wx_draw, wx_seq, wx_cond, wx_block, wx_exit, wx_ret, wx_loop, WDr_nil, WDr_cons, WDo_none, WDo_some, drK_eq, drU_eq, efK_eq, keepAll_nil, keepAll_true, keepAll_false, RC.ok_pure, RC.ok_load, RC.ok_slice, RC.ok_bytes, RC.ok_blk, mkRC, XThen_normal, XThen_exit, XThen_ret, XBlock_normal, XBlock_ret, XBlock_eq, WOps_nil, WOps_cons, WOp, WCall, wantd, dstOk, apure, aun, anilCheck, aextract, afieldAddr, afieldOff, afield, apart, aindexAddr_sl, aindex, aconv, amakeFunc, alen_str, alen_sl, alen_nils, alen_emp, alen_nul, alen_lst, alen_enc, one_enc, solid_enc, cells_enc, one_nul, solid_nul, cells_nul, one_lst, solid_lst, cells_lst, one_cptr, solid_cptr, cells_cptr, amin, amax, aint, astr, aeq, aeqIn, aeqFs, aeqIn, aeqFs, tk, asize, asliceElem, azero, aalloc, aload, read_last_cons, abytes, abytesStr_sl, Fr.ev, cav, cav1, Fr.get_put, Fr.put_none, Fr.get_init, ares, resOf, atH_eq, opH_eq, undefK_eq, snocK_eq, callK_eq, opsK_eq, codeK_eq, bodyK_ret, bodyK_normal, On_some, On1_some, OnB_some, OnH_some, Guard_true, Guard_false, IfB_true, IfB_false, OnFn_fn, St.own, St.alive, TK.isAgg, one_int, solid_int, cells_int, one_bool, solid_bool, cells_bool, one_str, solid_str, cells_str, one_nilp, solid_nilp, cells_nilp, one_ptr, solid_ptr, cells_ptr, one_nils, solid_nils, cells_nils, one_emp, solid_emp, cells_emp, one_sl, solid_sl, cells_sl, one_fn, solid_fn, cells_fn, one_nilf, solid_nilf, cells_nilf, solid_agg, cells_agg, sliceNil_nils, sliceNil_sl, sliceNil_emp, ptrNil_nilp, ptrNil_ptr, wr, apartsFill, abuild, aplaces, reps, Nat.reduceLT, Nat.reduceEqDiff, Nat.reduceAdd, Nat.reduceMul, Nat.reduceSub, Nat.reduceLeDiff, Int.reduceToNat, Int.reduceNeg, Int.reduceLT, Int.reduceLE, Int.reduceEq, if_true, if_false, true_and, and_true, and_self, reduceCtorEq, decide_true, decide_false, Bool.and_true, Bool.true_and, Bool.and_false, Bool.false_and, Bool.not_true, Bool.not_false, Bool.false_eq_true, beq_self_eq_true, cond_true, cond_false, Option.map_some, Option.map_none, Option.bind_some, Option.bind_none, List.map_cons, List.map_nil, List.all_cons, List.all_nil, List.set_cons_zero, List.set_cons_succ, List.length_cons, List.length_nil, List.getElem?_cons_zero, List.getElem?_cons_succ, List.getD_cons_zero, List.getD_cons_succ, List.drop_zero, List.drop_succ_cons, List.take_succ_cons, List.take_zero, List.replicate_succ, List.replicate_zero, List.flatten_cons, List.flatten_nil, List.append_nil, List.nil_append, List.cons_append, Nat.le_refl, ne_eq, not_true_eq_false, not_false_eq_true, td3, td9, td34, td37, td38, hbin]
    refine append_enc (E := nmE) (xs := []) (ys := x :: xs) (m := H.length) (.inr ⟨H.length, 0, .full, [], rfl, Nat.le_refl _, get_last _ _, rfl, rfl⟩) se34 az38 td38 (src_enc tk34) (by decide) ?_ (by simp) ?_
    · show ([].length + (x :: xs).length) * 50 ≤ _; simp only [List.length_nil, Nat.zero_add]; omega
    · intro v' H1 h1 h2 h3
      simp only [go_sem, Nat.reduceLT, Nat.reduceEqDiff, Nat.reduceAdd, Nat.reduceMul, Nat.reduceSub, Nat.reduceLeDiff, Int.reduceToNat, Int.reduceNeg, Int.reduceLT, Int.reduceLE, Int.reduceEq, reduceCtorEq]
      exact hK _ _ ⟨h1, Keep.new (Keep.snoc none H _) h2 (Nat.le_refl _)⟩
theorem tclone_own (xs : List Tk) (hn : xs.length ≤ 1000000) (H : Heap) : WC Try.prog 57 [(tkE).lst xs] H fun r H' => OwnE (tkE) H.length H' r xs ∧ Keep none H H' := by
  refine WC_of_K fun K hK => ?_
  cases xs with
  | nil =>
    refine WC_lst0 (pre := []) (post := []) ?_ ?_
    · skip
      refine WC_of_body hT Try.func57 rfl (by simp [Try.f57]) (by simp [Try.f57]) (wx_sound hT _ ?_)
      simp only [Try.f57]
      repeat' (first | simp only [go_sem, Nat.reduceLT, Nat.reduceEqDiff, Nat.reduceAdd, Nat.reduceMul, Nat.reduceSub, Nat.reduceLeDiff, Int.reduceToNat, Int.reduceNeg, Int.reduceLT, Int.reduceLE, Int.reduceEq, reduceCtorEq, Int.natCast_zero, Int.natCast_one, Int.cast_ofNat_Int, Bool.not_not, false_eq_decide, true_eq_decide, hread0, hreadk, read_cons0, read_consk, astore_h0, astore_hk, hget0, hgetk, hset0, hsetk, hlen, hcat, Nat.add_assoc, Nat.add_zero, Nat.zero_add, List.length_append, and_true, true_and, AV.flat, *, -hK] | with_reducible refine IfB_dec (fun h => ?_) (fun h => ?_) | with_reducible refine Guard_dec (fun h => ?_) (fun h => ?_) | with_reducible refine Guard_ndec (fun h => ?_) (fun h => ?_) | with_reducible refine Guard_not (fun h => ?_) (fun h => ?_) | with_reducible refine IfB_ndec (fun h => ?_) (fun h => ?_) | with_reducible refine IfB_not (fun h => ?_) (fun h => ?_) | with_reducible refine Guard_split (fun h => ?_) (fun h => ?_) | with_reducible refine IfB_split (fun h => ?_) (fun h => ?_))
      exact hK _ _ ⟨OwnE.nils _ _ _, Keep.refl _ _⟩
    · skip
      refine WC_of_body hT Try.func57 rfl (by simp [Try.f57]) (by simp [Try.f57]) (wx_sound hT _ ?_)
      simp only [Try.f57]
      simp only [go_sem, Nat.reduceLT, Nat.reduceEqDiff, Nat.reduceAdd, Nat.reduceMul, Nat.reduceSub, Nat.reduceLeDiff, Int.reduceToNat, Int.reduceNeg, Int.reduceLT, Int.reduceLE, Int.reduceEq, reduceCtorEq]
      refine append_enc (E := tkE) (xs := []) (ys := []) (m := H.length) (.inr ⟨H.length, 0, .full, [], rfl, Nat.le_refl _, get_last _ _, rfl, rfl⟩) se22 az36 td36 ?_ (by decide) (by simp) (by simp) ?_
      · simp only [asrc, tk22]; rfl
      · intro v' H1 h1 h2 h3
        simp only [go_sem, Nat.reduceLT, Nat.reduceEqDiff, Nat.reduceAdd, Nat.reduceMul, Nat.reduceSub, Nat.reduceLeDiff, Int.reduceToNat, Int.reduceNeg, Int.reduceLT, Int.reduceLE, Int.reduceEq, reduceCtorEq]
        exact hK _ _ ⟨h1, Keep.new (Keep.snoc none H _) h2 (Nat.le_refl _)⟩
  | cons x xs =>
    have hnil : AV.sliceNil ((tkE).lst (x :: xs)) = some false := rfl
    have hbin : abin T .eql 22 ((tkE).lst (x :: xs)) .nils = some (.bool false) := by simp only [abin, tk22, Enc.lst, AV.sliceNil]; rw [if_pos (by simp)]; rfl
    refine WC_of_body hT Try.func57 rfl (by simp [Try.f57]) (by simp [Try.f57]) (wx_sound hT _ ?_)
    simp only [Try.f57]
    simp only [wx_skip, wx_region, wx_draw, wx_seq, wx_cond, wx_block, wx_exit, wx_ret, wx_loop, WDr_nil, WDr_cons, WDo_none, WDo_some, drK_eq, drU_eq, efK_eq, keepAll_nil, keepAll_true, keepAll_false, RC.ok_pure, RC.ok_load, RC.ok_slice, RC.ok_bytes, RC.ok_blk, mkRC, XThen_normal, XThen_exit, XThen_ret, XBlock_normal, XBlock_ret, XBlock_eq, WOps_nil, WOps_cons, WOp, WCall, wantd, dstOk, apure, aun, anilCheck, aextract, afieldAddr, afieldOff, afield, apart, aindexAddr_sl, aindex, aconv, amakeFunc, alen_str, alen_sl, alen_nils, alen_emp, alen_nul, alen_lst, alen_enc, one_enc, solid_enc, cells_enc, one_nul, solid_nul, cells_nul, one_lst, solid_lst, cells_lst, one_cptr, solid_cptr, cells_cptr, amin, amax, aint, astr, aeq, aeqIn, aeqFs, aeqIn, aeqFs, tk, asize, asliceElem, azero, aalloc, aload, read_last_cons, abytes, abytesStr_sl, Fr.ev, cav, cav1, Fr.get_put, Fr.put_none, Fr.get_init, ares, resOf, atH_eq, opH_eq, undefK_eq, snocK_eq, callK_eq, opsK_eq, codeK_eq, bodyK_ret, bodyK_normal, On_some, On1_some, OnB_some, OnH_some, Guard_true, Guard_false, IfB_true, IfB_false, OnFn_fn, St.own, St.alive, TK.isAgg, one_int, solid_int, cells_int, one_bool, solid_bool, cells_bool, one_str, solid_str, cells_str, one_nilp, solid_nilp, cells_nilp, one_ptr, solid_ptr, cells_ptr, one_nils, solid_nils, cells_nils, one_emp, solid_emp, cells_emp, one_sl, solid_sl, cells_sl, one_fn, solid_fn, cells_fn, one_nilf, solid_nilf, cells_nilf, solid_agg, cells_agg, sliceNil_nils, sliceNil_sl, sliceNil_emp, ptrNil_nilp, ptrNil_ptr, wr, apartsFill, abuild, aplaces, reps, Nat.reduceLT, Nat.reduceEqDiff, Nat.reduceAdd, Nat.reduceMul, Nat.reduceSub, Nat.reduceLeDiff, Int.reduceToNat, Int.reduceNeg, Int.reduceLT, Int.reduceLE, Int.reduceEq, if_true, if_false, true_and, and_true, and_self, reduceCtorEq, decide_true, decide_false, Bool.and_true, Bool.true_and, Bool.and_false, Bool.false_and, Bool.not_true, Bool.not_false, Bool.false_eq_true, beq_self_eq_true, cond_true, cond_false, Option.map_some, Option.map_none, Option.bind_some, Option.bind_none, List.map_cons, List.map_nil, List.all_cons, List.all_nil, List.set_cons_zero, List.set_cons_succ, List.length_cons, List.length_nil, List.getElem?_cons_zero, List.getElem?_cons_succ, List.getD_cons_zero, List.getD_cons_succ, List.drop_zero, List.drop_succ_cons, List.take_succ_cons, List.take_zero, List.replicate_succ, List.replicate_zero, List.flatten_cons, List.flatten_nil, List.append_nil, List.nil_append, List.cons_append, Nat.le_refl, ne_eq, not_true_eq_false, not_false_eq_true, td3, td4, td9, td22, td34, td35, td36, td37, td38, hbin]
    refine append_enc (E := tkE) (xs := []) (ys := x :: xs) (m := H.length) (.inr ⟨H.length, 0, .full, [], rfl, Nat.le_refl _, get_last _ _, rfl, rfl⟩) se22 az36 td36 (src_enc tk22) (by decide) ?_ (by simp) ?_
    · show ([].length + (x :: xs).length) * 66 ≤ _; simp only [List.length_nil, Nat.zero_add]; omega
    · intro v' H1 h1 h2 h3
      simp only [go_sem, Nat.reduceLT, Nat.reduceEqDiff, Nat.reduceAdd, Nat.reduceMul, Nat.reduceSub, Nat.reduceLeDiff, Int.reduceToNat, Int.reduceNeg, Int.reduceLT, Int.reduceLE, Int.reduceEq, reduceCtorEq]
      exact hK _ _ ⟨h1, Keep.new (Keep.snoc none H _) h2 (Nat.le_refl _)⟩
theorem ndelF_own (m : Nat) (v : AV) (xs : List Nm) (g : FuncId) (cs : List AV) (p : Nm → Bool) (hn : xs.length ≤ 1000000) (H : Heap) (hv : OwnE (nmE) m H v xs) (hp : ∀ x ∈ xs, ∀ J, Keep v.blk H J → WC Try.prog g (Nm.av x :: cs) J fun r H' => r = .bool (p x) ∧ H' = J) :
    WC Try.prog 42 [v, .fn g [] cs] H fun r H' => OwnE (nmE) m H' r (xs.filter fun x => !p x) ∧ Keep v.blk H H' ∧ r.blk = v.blk := by
  refine WC_of_K fun K hK => ?_
  refine WC_of_body hT Try.func42 rfl (by simp [Try.f42]) (by simp [Try.f42]) (wx_sound hT _ ?_)
  simp only [Try.f42]
  have e0 := hv.alen (by decide) tk34
  repeat' (first | simp only [go_sem, Nat.reduceLT, Nat.reduceEqDiff, Nat.reduceAdd, Nat.reduceMul, Nat.reduceSub, Nat.reduceLeDiff, Int.reduceToNat, Int.reduceNeg, Int.reduceLT, Int.reduceLE, Int.reduceEq, reduceCtorEq, Int.natCast_zero, Int.natCast_one, Int.cast_ofNat_Int, Bool.not_not, false_eq_decide, true_eq_decide, hread0, hreadk, read_cons0, read_consk, astore_h0, astore_hk, hget0, hgetk, hset0, hsetk, hlen, hcat, Nat.add_assoc, Nat.add_zero, Nat.zero_add, List.length_append, and_true, true_and, AV.flat, *, -hK] | refine WC.call (nmIdxF_own m v xs g cs p (by omega) _ hv (fun x hx => hp x hx _ (Keep.refl _ _))) ?_ | with_reducible refine IfB_dec (fun h => ?_) (fun h => ?_) | with_reducible refine Guard_dec (fun h => ?_) (fun h => ?_) | with_reducible refine Guard_ndec (fun h => ?_) (fun h => ?_) | with_reducible refine Guard_not (fun h => ?_) (fun h => ?_) | with_reducible refine IfB_ndec (fun h => ?_) (fun h => ?_) | with_reducible refine IfB_not (fun h => ?_) (fun h => ?_) | with_reducible refine Guard_split (fun h => ?_) (fun h => ?_) | with_reducible refine IfB_split (fun h => ?_) (fun h => ?_))
  case refine_1 =>
    refine hK _ _ ⟨?_, Keep.refl _ _, rfl⟩
    have : xs.filter (fun x => !p x) = xs := by
      rw [List.filter_eq_self]
      intro x hx
      cases hf : xs.findIdx? p with
      | none => rw [List.findIdx?_eq_none_iff] at hf; simp [hf x hx]
      | some i => rw [hf] at h; simp only [idxI] at h; omega
    rw [this]; exact hv
  case refine_2 =>
    obtain ⟨i0, hi0⟩ : ∃ i, xs.findIdx? p = some i := by
      cases hf : xs.findIdx? p with
      | none => rw [hf] at h; exact absurd rfl h
      | some i => exact ⟨i, rfl⟩
    have hii := List.findIdx?_eq_some_iff_getElem.1 hi0
    obtain ⟨hlt0, hp0, hno0⟩ := hii
    have htk : (xs.take i0).filter (fun x => !p x) = xs.take i0 := by
      rw [List.filter_eq_self]; intro x hx
      obtain ⟨j, hj, rfl⟩ := List.getElem_of_mem hx
      rw [List.length_take] at hj
      rw [List.getElem_take]; simpa using hno0 j (by omega)
    have htk1 : (xs.take (i0 + 1)).filter (fun x => !p x) = xs.take i0 := by
      rw [List.take_succ_eq_append_getElem hlt0, List.filter_append, htk]; simp [hp0]
    have e9 : IntKind.i64.wrap ((i0 : Int) + 1) = ((i0 + 1 : Nat) : Int) := inc_id hlt0 (by omega)
    rw [hi0] at h ⊢
    simp only [idxI] at h ⊢
    refine WX_loopS [0, 1, 4] (fun k fr' H' => ∃ (i j : Nat) (ys : List Nm), k = xs.length - j ∧ i < j ∧ j ≤ xs.length ∧ fr'.get 5 = .int .i64 i ∧ fr'.get 6 = .int .i64 j ∧ ys.length = xs.length ∧ OwnE (nmE) m H' v ys ∧ ys.take i = (xs.take j).filter (fun x => !p x) ∧ ys.drop j = xs.drop j ∧ Keep v.blk H H') (xs.length - (i0 + 1)) ⟨i0, i0 + 1, xs, rfl, by omega, by omega, by simp only [go_sem, Nat.reduceLT, Nat.reduceEqDiff, Nat.reduceAdd, Nat.reduceMul, Nat.reduceSub, Nat.reduceLeDiff, Int.reduceToNat, Int.reduceNeg, Int.reduceLT, Int.reduceLE, Int.reduceEq, reduceCtorEq], by simp only [go_sem, Nat.reduceLT, Nat.reduceEqDiff, Nat.reduceAdd, Nat.reduceMul, Nat.reduceSub, Nat.reduceLeDiff, Int.reduceToNat, Int.reduceNeg, Int.reduceLT, Int.reduceLE, Int.reduceEq, reduceCtorEq]; rw [e9], rfl, hv, htk1.symm, rfl, Keep.refl _ _⟩ ?_
    rintro k fr' H' A R hA hs hg hR ⟨i, j, ys, rfl, hij, hj, f5, f6, hyl, hys, hyt, hyd, kk⟩
    have s0 := hg 0 (by decide)
    have s1 := hg 1 (by decide)
    have s4 := hg 4 (by decide)
    simp only [Fr.get_put, Fr.get_init, List.getD_cons_zero, List.getD_cons_succ, Nat.reduceEqDiff, if_true, if_false] at s0 s1 s4
    have e0' := hys.alen (by decide) tk34
    rw [hyl] at e0'
    refine wx_sound hT _ ?_
    repeat' (first | simp only [go_sem, Nat.reduceLT, Nat.reduceEqDiff, Nat.reduceAdd, Nat.reduceMul, Nat.reduceSub, Nat.reduceLeDiff, Int.reduceToNat, Int.reduceNeg, Int.reduceLT, Int.reduceLE, Int.reduceEq, reduceCtorEq, Int.natCast_zero, Int.natCast_one, Int.cast_ofNat_Int, Bool.not_not, false_eq_decide, true_eq_decide, hread0, hreadk, read_cons0, read_consk, astore_h0, astore_hk, hget0, hgetk, hset0, hsetk, hlen, hcat, Nat.add_assoc, Nat.add_zero, Nat.zero_add, List.length_append, and_true, true_and, AV.flat, *, -hK, -hyt, -hyd, -hyl] | with_reducible refine IfB_dec (fun h => ?_) (fun h => ?_) | with_reducible refine Guard_dec (fun h => ?_) (fun h => ?_) | with_reducible refine Guard_ndec (fun h => ?_) (fun h => ?_) | with_reducible refine Guard_not (fun h => ?_) (fun h => ?_) | with_reducible refine IfB_ndec (fun h => ?_) (fun h => ?_) | with_reducible refine IfB_not (fun h => ?_) (fun h => ?_) | with_reducible refine Guard_split (fun h => ?_) (fun h => ?_) | with_reducible refine IfB_split (fun h => ?_) (fun h => ?_))
    case refine_1 =>
      have hlt : j < xs.length := by omega
      have hlt' : j < ys.length := by omega
      have hyj : ys[j] = xs[j] := by
        have h1 := congrArg (fun l => l[0]?) hyd
        simp only [List.getElem?_drop, Nat.add_zero] at h1
        rw [List.getElem?_eq_getElem hlt', List.getElem?_eq_getElem hlt] at h1
        simpa using h1
      obtain ⟨b, o, e1, e2, hbk⟩ := hys.at_ (by decide) se34 hlt' (k := .i64) rfl
      rw [show (nmE).sz = 2 from rfl, hyj] at e2
      have e2' := fun L => read_more e2 L
      have e3 := inc_id hlt (show xs.length ≤ 140737488355328 by omega)
      have e4 := inc_id (show i < xs.length by omega) (show xs.length ≤ 140737488355328 by omega)
      have hti : ys.take i = (xs.take j).filter (fun x => !p x) := hyt
      repeat' (first | simp only [go_sem, Nat.reduceLT, Nat.reduceEqDiff, Nat.reduceAdd, Nat.reduceMul, Nat.reduceSub, Nat.reduceLeDiff, Int.reduceToNat, Int.reduceNeg, Int.reduceLT, Int.reduceLE, Int.reduceEq, reduceCtorEq, Int.natCast_zero, Int.natCast_one, Int.cast_ofNat_Int, Bool.not_not, false_eq_decide, true_eq_decide, hread0, hreadk, read_cons0, read_consk, astore_h0, astore_hk, hget0, hgetk, hset0, hsetk, hlen, hcat, Nat.add_assoc, Nat.add_zero, Nat.zero_add, List.length_append, and_true, true_and, AV.flat, nmE_cells, Nm.av, *, -hK, -hyt, -hyd, -hyl, -hti, -hyj, -hbk] | refine WC.call (hp _ (List.getElem_mem hlt) _ (kk.trans (Keep.weak (Keep.app none _ _)))) ?_ | with_reducible refine IfB_dec (fun h => ?_) (fun h => ?_) | with_reducible refine Guard_dec (fun h => ?_) (fun h => ?_) | with_reducible refine Guard_ndec (fun h => ?_) (fun h => ?_) | with_reducible refine Guard_not (fun h => ?_) (fun h => ?_) | with_reducible refine IfB_ndec (fun h => ?_) (fun h => ?_) | with_reducible refine IfB_not (fun h => ?_) (fun h => ?_) | with_reducible refine Guard_split (fun h => ?_) (fun h => ?_) | with_reducible refine IfB_split (fun h => ?_) (fun h => ?_))
      case refine_1 =>
        have hys2 := hys.keep0 (Keep.app none H' [⟨(nmE).cells xs[j], 0, .full⟩])
        obtain ⟨b', o', H2, q1, q2, q3, q4, q5⟩ := hys2.set (by decide) se34 (i := i) (by omega) (k := .i64) rfl (te := 38) (by simp only [asize, td38, Option.map_some]; rfl) (x := xs[j]) (a := Nm.av xs[j]) rfl rfl
        rw [show Nm.av xs[j] = _ from rfl] at q2
        simp only [nmE_cells, Nm.av, Nm.av] at q2
        repeat' (first | simp only [go_sem, Nat.reduceLT, Nat.reduceEqDiff, Nat.reduceAdd, Nat.reduceMul, Nat.reduceSub, Nat.reduceLeDiff, Int.reduceToNat, Int.reduceNeg, Int.reduceLT, Int.reduceLE, Int.reduceEq, reduceCtorEq, Int.natCast_zero, Int.natCast_one, Int.cast_ofNat_Int, Bool.not_not, false_eq_decide, true_eq_decide, hread0, hreadk, read_cons0, read_consk, astore_h0, astore_hk, hget0, hgetk, hset0, hsetk, hlen, hcat, Nat.add_assoc, Nat.add_zero, Nat.zero_add, List.length_append, and_true, true_and, AV.flat, *, -hK, -hyt, -hyd, -hyl, -hti, -hyj, -hbk, -q5] | with_reducible refine IfB_dec (fun h => ?_) (fun h => ?_) | with_reducible refine Guard_dec (fun h => ?_) (fun h => ?_) | with_reducible refine Guard_ndec (fun h => ?_) (fun h => ?_) | with_reducible refine Guard_not (fun h => ?_) (fun h => ?_) | with_reducible refine IfB_ndec (fun h => ?_) (fun h => ?_) | with_reducible refine IfB_not (fun h => ?_) (fun h => ?_) | with_reducible refine Guard_split (fun h => ?_) (fun h => ?_) | with_reducible refine IfB_split (fun h => ?_) (fun h => ?_))
        refine hR _ _ (by (repeat (first | exact hs | refine hA _ _ _ (by decide) ?_))) (xs.length - (j + 1)) (by omega) ⟨i + 1, j + 1, ys.set i xs[j], rfl, by omega, by omega, by simp only [go_sem, Nat.reduceLT, Nat.reduceEqDiff, Nat.reduceAdd, Nat.reduceMul, Nat.reduceSub, Nat.reduceLeDiff, Int.reduceToNat, Int.reduceNeg, Int.reduceLT, Int.reduceLE, Int.reduceEq, reduceCtorEq], by simp only [go_sem, Nat.reduceLT, Nat.reduceEqDiff, Nat.reduceAdd, Nat.reduceMul, Nat.reduceSub, Nat.reduceLeDiff, Int.reduceToNat, Int.reduceNeg, Int.reduceLT, Int.reduceLE, Int.reduceEq, reduceCtorEq], by rw [List.length_set, hyl], q3, ?_, ?_, ?_⟩
        · rw [List.take_succ_eq_append_getElem hlt, List.filter_append, ← hti, List.take_succ_eq_append_getElem (by rw [List.length_set]; omega), List.getElem_set_self, List.take_set_of_le (Nat.le_refl _)]
          simp [h]
        · rw [List.drop_set_of_lt (by omega), ← List.drop_drop, hyd, List.drop_drop]
        · rw [q5]; rw [q5] at kk; exact (kk.trans (Keep.weak (Keep.app none _ _))).trans q4
      case refine_2 =>
        refine hR _ _ (by (repeat (first | exact hs | refine hA _ _ _ (by decide) ?_))) (xs.length - (j + 1)) (by omega) ⟨i, j + 1, ys, rfl, by omega, by omega, by simp only [go_sem, Nat.reduceLT, Nat.reduceEqDiff, Nat.reduceAdd, Nat.reduceMul, Nat.reduceSub, Nat.reduceLeDiff, Int.reduceToNat, Int.reduceNeg, Int.reduceLT, Int.reduceLE, Int.reduceEq, reduceCtorEq, f5], by simp only [go_sem, Nat.reduceLT, Nat.reduceEqDiff, Nat.reduceAdd, Nat.reduceMul, Nat.reduceSub, Nat.reduceLeDiff, Int.reduceToNat, Int.reduceNeg, Int.reduceLT, Int.reduceLE, Int.reduceEq, reduceCtorEq], hyl, hys.keep0 (Keep.app _ _ _), ?_, ?_, kk.trans (Keep.weak (Keep.app none _ _))⟩
        · rw [List.take_succ_eq_append_getElem hlt, List.filter_append, ← hti]; simp [h]
        · rw [← List.drop_drop, hyd, List.drop_drop]
    case refine_2 =>
      have hjn : j = xs.length := by omega
      rw [hjn, List.take_length] at hyt
      obtain ⟨v1, H2, v2, c1, c2, c3, c4, c5, c6⟩ := hys.clear (by decide) se34 (i := i) (by omega) (k := .i64) rfl az38 rfl
      repeat' (first | simp only [go_sem, Nat.reduceLT, Nat.reduceEqDiff, Nat.reduceAdd, Nat.reduceMul, Nat.reduceSub, Nat.reduceLeDiff, Int.reduceToNat, Int.reduceNeg, Int.reduceLT, Int.reduceLE, Int.reduceEq, reduceCtorEq, Int.natCast_zero, Int.natCast_one, Int.cast_ofNat_Int, Bool.not_not, false_eq_decide, true_eq_decide, hread0, hreadk, read_cons0, read_consk, astore_h0, astore_hk, hget0, hgetk, hset0, hsetk, hlen, hcat, Nat.add_assoc, Nat.add_zero, Nat.zero_add, List.length_append, and_true, true_and, AV.flat, *, -hK, -hyt, -hyd, -hyl] | with_reducible refine IfB_dec (fun h => ?_) (fun h => ?_) | with_reducible refine Guard_dec (fun h => ?_) (fun h => ?_) | with_reducible refine Guard_ndec (fun h => ?_) (fun h => ?_) | with_reducible refine Guard_not (fun h => ?_) (fun h => ?_) | with_reducible refine IfB_ndec (fun h => ?_) (fun h => ?_) | with_reducible refine IfB_not (fun h => ?_) (fun h => ?_) | with_reducible refine Guard_split (fun h => ?_) (fun h => ?_) | with_reducible refine IfB_split (fun h => ?_) (fun h => ?_))
      refine hK _ _ ⟨?_, kk.trans c3, c6⟩
      rw [← hyt]; exact c5
theorem ndel_own (m : Nat) (v : AV) (xs : List Nm) (i : Nat) (hi : i < xs.length) (hn : xs.length ≤ 1000000) (H : Heap) (hv : OwnE (nmE) m H v xs) :
    WC Try.prog 47 [v, .int .i64 i, .int .i64 ((i + 1 : Nat) : Int)] H fun r H' => OwnE (nmE) m H' r (xs.eraseIdx i) ∧ Keep v.blk H H' ∧ r.blk = v.blk := by
  refine WC_of_K fun K hK => ?_
  refine WC_of_body hT Try.func47 rfl (by simp [Try.f47]) (by simp [Try.f47]) (wx_sound hT _ ?_)
  simp only [Try.f47]
  have e0 := hv.alen (by decide) tk34
  have e1 : ∃ w, aslice T H 34 v (some (.int .i64 i)) (some (.int .i64 ((i + 1 : Nat) : Int))) (some (.int .i64 xs.length)) = some w := by
    obtain ⟨w, h1, _⟩ := (hv.vs (by decide)).slice3 se34 (lo := some (.int .i64 i)) (ku := .i64) (km := .i64) (l := i) (u := i + 1) (m := xs.length) (zu := ((i + 1 : Nat) : Int)) (zm := xs.length) rfl rfl (abound_nat i rfl) (by omega) (by omega) (Nat.le_refl _)
    exact ⟨w, h1⟩
  obtain ⟨w, e1⟩ := e1
  have e2 : ((i : Int) = ((i + 1 : Nat) : Int)) = False := by simp; omega
  have hbn : v.blk ≠ none := by
    obtain ⟨b, o, _, _, hb⟩ := hv.at_ (by decide) se34 hi (k := .i64) rfl
    rw [hb]; simp
  repeat' (first | simp only [go_sem, Nat.reduceLT, Nat.reduceEqDiff, Nat.reduceAdd, Nat.reduceMul, Nat.reduceSub, Nat.reduceLeDiff, Int.reduceToNat, Int.reduceNeg, Int.reduceLT, Int.reduceLE, Int.reduceEq, reduceCtorEq, Int.natCast_zero, Int.natCast_one, Int.cast_ofNat_Int, Bool.not_not, false_eq_decide, true_eq_decide, hread0, hreadk, read_cons0, read_consk, astore_h0, astore_hk, hget0, hgetk, hset0, hsetk, hlen, hcat, Nat.add_assoc, Nat.add_zero, Nat.zero_add, List.length_append, and_true, true_and, AV.flat, *, -hK] | with_reducible refine IfB_dec (fun h => ?_) (fun h => ?_) | with_reducible refine Guard_dec (fun h => ?_) (fun h => ?_) | with_reducible refine Guard_ndec (fun h => ?_) (fun h => ?_) | with_reducible refine Guard_not (fun h => ?_) (fun h => ?_) | with_reducible refine IfB_ndec (fun h => ?_) (fun h => ?_) | with_reducible refine IfB_not (fun h => ?_) (fun h => ?_) | with_reducible refine Guard_split (fun h => ?_) (fun h => ?_) | with_reducible refine IfB_split (fun h => ?_) (fun h => ?_))
  refine WX_rows hT hmix [(0, none), (1, none), (2, none), (3, none), (4, none), (5, none), (6, some [true, true, true, true, true, true]), (7, none)] (by kernel_rfl) ?_
  obtain ⟨v1, v2, s1, s2, hap⟩ := erase_of2 (OwnE.of hv) se34 az38 td38 tk34 (by decide) (i := i) hi (k1 := .i64) (k2 := .i64) (z1 := i) (z2 := ((i + 1 : Nat) : Int)) rfl rfl
  repeat' (first | simp only [go_sem, Nat.reduceLT, Nat.reduceEqDiff, Nat.reduceAdd, Nat.reduceMul, Nat.reduceSub, Nat.reduceLeDiff, Int.reduceToNat, Int.reduceNeg, Int.reduceLT, Int.reduceLE, Int.reduceEq, reduceCtorEq, Int.natCast_zero, Int.natCast_one, Int.cast_ofNat_Int, Bool.not_not, false_eq_decide, true_eq_decide, hread0, hreadk, read_cons0, read_consk, astore_h0, astore_hk, hget0, hgetk, hset0, hsetk, hlen, hcat, Nat.add_assoc, Nat.add_zero, Nat.zero_add, List.length_append, and_true, true_and, AV.flat, *, -hK] | with_reducible refine IfB_dec (fun h => ?_) (fun h => ?_) | with_reducible refine Guard_dec (fun h => ?_) (fun h => ?_) | with_reducible refine Guard_ndec (fun h => ?_) (fun h => ?_) | with_reducible refine Guard_not (fun h => ?_) (fun h => ?_) | with_reducible refine IfB_ndec (fun h => ?_) (fun h => ?_) | with_reducible refine IfB_not (fun h => ?_) (fun h => ?_) | with_reducible refine Guard_split (fun h => ?_) (fun h => ?_) | with_reducible refine IfB_split (fun h => ?_) (fun h => ?_))
  refine hap _ ?_
  intro v' H3 g3 k3 hb3 hr3
  have g3' := OwnE.to g3
  have hlen : (xs.eraseIdx i).length < xs.length := by rw [List.length_eraseIdx]; split <;> omega
  have e3 := g3'.alen (by decide) tk34
  obtain ⟨v4, H4, c1, c2, c3, c4⟩ := g3'.clearRoom (by rw [hb3]; exact hbn) (by decide) se34 hr3 hlen (k := .i64) (k' := .i64) rfl rfl az38 rfl
  repeat' (first | simp only [go_sem, Nat.reduceLT, Nat.reduceEqDiff, Nat.reduceAdd, Nat.reduceMul, Nat.reduceSub, Nat.reduceLeDiff, Int.reduceToNat, Int.reduceNeg, Int.reduceLT, Int.reduceLE, Int.reduceEq, reduceCtorEq, Int.natCast_zero, Int.natCast_one, Int.cast_ofNat_Int, Bool.not_not, false_eq_decide, true_eq_decide, hread0, hreadk, read_cons0, read_consk, astore_h0, astore_hk, hget0, hgetk, hset0, hsetk, hlen, hcat, Nat.add_assoc, Nat.add_zero, Nat.zero_add, List.length_append, and_true, true_and, AV.flat, *, -hK, -hb3] | with_reducible refine IfB_dec (fun h => ?_) (fun h => ?_) | with_reducible refine Guard_dec (fun h => ?_) (fun h => ?_) | with_reducible refine Guard_ndec (fun h => ?_) (fun h => ?_) | with_reducible refine Guard_not (fun h => ?_) (fun h => ?_) | with_reducible refine IfB_ndec (fun h => ?_) (fun h => ?_) | with_reducible refine IfB_not (fun h => ?_) (fun h => ?_) | with_reducible refine Guard_split (fun h => ?_) (fun h => ?_) | with_reducible refine IfB_split (fun h => ?_) (fun h => ?_))
  refine hK _ _ ⟨c4, ?_, hb3⟩
  rw [hb3] at c3; exact k3.trans c3
/-- A slot that is put out of the way. -/
theorem Keep.of_set {H G : Heap} {p : Nat} {B : Blk} (h : G = List.set H p B) : Keep (some p) H G := by
  subst h
  exact ⟨by simp, fun b hb hp => List.getElem?_set_ne fun e => hp (by rw [e])⟩
theorem TkO.upd' {m p k : Nat} {H : Heap} {ps : List (AV × AV)} {l : List Tk} (o : TkO m H p k ps l) {i : Nat} {x y : AV × AV} {t t2 : Tk} (hx : ps[i]? = some x) (ht : l[i]? = some t) {k2 : Nat} (hk : (k2 = k ∧ i < k) ∨ (k2 = k + 1 ∧ i = k)) {H2 : Heap}
    (kk : Keep x.2.blk H H2) (hon : y.1 = .bool t2.on) (o2 : OwnE nmE m H2 y.2 t2.ns) (hb : ∀ b, y.2.blk = some b → x.2.blk = some b ∨ H.length ≤ b) (rest : List AV) (st : St) (hst : st.own = true) : TkO m (List.set H2 p ⟨row2 (ps.set i y) ++ rest, 2, st⟩) p k2 (ps.set i y) (l.set i t2) := by
  have hlt := o.lt
  have hoth : ∀ (j : Nat) (z : AV × AV) (b : Nat), ps[j]? = some z → z.2.blk = some b → b < H.length := fun j z b hz hzb => by
    have hj : j < l.length := by rw [← o.len]; exact (List.getElem?_eq_some_iff.1 hz).1
    obtain ⟨_, g2, g3, _⟩ := o.el j z l[j] hz (List.getElem?_eq_getElem hj)
    by_cases hjk : j < k
    · exact (g3 hjk).lt hzb
    · rw [g2 (by omega)] at hzb; simp [Enc.lst, AV.blk] at hzb
  have hxp := (o.el i x t hx ht).2.2.2
  refine o.upd hx ht hk (fun b hb' => ?_) hon o2 (fun b hyb => ?_) rest st hst
  · rcases hb' with rfl | ⟨j, z, hne, hz, hzb⟩
    · exact kk.at_ _ hlt hxp
    · exact kk.at_ _ (hoth j z b hz hzb) (fun e => o.dis i j x z b (fun e => hne e.symm) hx hz e hzb)
  · rcases hb b hyb with h | h
    · exact ⟨fun e => hxp (by rw [h, e]), fun j z hne hz => o.dis i j x z b (fun e => hne e.symm) hx hz h⟩
    · exact ⟨by omega, fun j z _ hz hzb => by have := hoth j z b hz hzb; omega⟩
theorem list_set_self {α : Type} {l : List α} {i : Nat} {x : α} (h : l[i]? = some x) : l.set i x = l := by
  apply List.ext_getElem?
  intro j
  by_cases e : i = j
  · subst e; rw [h, List.getElem?_set_self (List.getElem?_eq_some_iff.1 h).1]
  · rw [List.getElem?_set_ne e]
theorem TkO.moved {m p k : Nat} {H G : Heap} {ps : List (AV × AV)} {l : List Tk} (o : TkO m H p k ps l) (kk : Keep none H G) : TkO m G p k ps l := by
  refine ⟨o.len, o.ge, ?_, fun i x t hx ht => ?_, o.dis⟩
  · obtain ⟨st, rest, h, h2⟩ := o.blk
    exact ⟨st, rest, kk.get h (by simp), h2⟩
  · obtain ⟨g1, g2, g3, g4⟩ := o.el i x t hx ht
    exact ⟨g1, g2, fun h => (g3 h).keep0 kk, g4⟩
theorem TkO.weaken {m m2 p k : Nat} {H : Heap} {ps : List (AV × AV)} {l : List Tk} (o : TkO m H p k ps l) (h : m2 ≤ m) : TkO m2 H p k ps l := by
  refine ⟨o.len, Nat.le_trans h o.ge, o.blk, fun i x t hx ht => ?_, o.dis⟩
  obtain ⟨g1, g2, g3, g4⟩ := o.el i x t hx ht
  exact ⟨g1, g2, fun hi => (g3 hi).mono h, g4⟩
/-- What lies below stays below. -/
theorem TkO.low {m p k : Nat} {H G : Heap} {ps : List (AV × AV)} {l : List Tk} (o : TkO m H p k ps l) (h : ∀ b, m ≤ b → b < H.length → G[b]? = H[b]?) : TkO m G p k ps l := by
  refine ⟨o.len, o.ge, ?_, fun i x t hx ht => ?_, o.dis⟩
  · obtain ⟨st, rest, h1, h2⟩ := o.blk
    exact ⟨st, rest, by rw [h p o.ge o.lt]; exact h1, h2⟩
  · obtain ⟨g1, g2, g3, g4⟩ := o.el i x t hx ht
    refine ⟨g1, g2, fun hi => ?_, g4⟩
    rcases g3 hi with g3 | ⟨b, n, st, rest, e, q1, q2, q3⟩
    · exact .inl g3
    · exact .inr ⟨b, n, st, rest, e, q1, by rw [h b q1 (List.getElem?_eq_some_iff.1 q2).1]; exact q2, q3⟩
theorem OwnE.sc {α : Type} {E : Enc α} {m : Nat} {H : Heap} {v : AV} {xs : List α} (o : OwnE E m H v xs) : v.solid = true ∧ v.cells = [v] := by
  rcases o with ⟨rfl, _⟩ | ⟨b, n, st, rest, rfl, _⟩ <;> exact ⟨rfl, rfl⟩
theorem twin_own (l : List Tk) (h1 : 1 ≤ l.length) (hn : l.length ≤ 1000) (hns : ∀ t ∈ l, t.ns.length ≤ 1000) (H : Heap) :
    WC Try.prog 41 [trAv l] H fun r H' => ∃ p ps, r = .agg [.sl p 0 l.length none] ∧ TkO H.length H' p l.length ps l ∧ Keep none H H' := by
  refine WC_of_K fun K hK => ?_
  unfold trAv
  refine WC_of_body hT Try.func41 rfl (by simp [Try.f41]) (by simp [Try.f41]) (wx_sound hT _ ?_)
  simp only [Try.f41]
  have cs := fun J => tclone_own l (by omega) J
  repeat' (first | simp only [go_sem, Nat.reduceLT, Nat.reduceEqDiff, Nat.reduceAdd, Nat.reduceMul, Nat.reduceSub, Nat.reduceLeDiff, Int.reduceToNat, Int.reduceNeg, Int.reduceLT, Int.reduceLE, Int.reduceEq, reduceCtorEq, Int.natCast_zero, Int.natCast_one, Int.cast_ofNat_Int, Bool.not_not, false_eq_decide, true_eq_decide, hread0, hreadk, read_cons0, read_consk, astore_h0, astore_hk, hget0, hgetk, hset0, hsetk, hlen, hcat, Nat.add_assoc, Nat.add_zero, Nat.zero_add, List.length_append, and_true, true_and, AV.flat, *, -hK, -cs] | with_reducible refine IfB_dec (fun h => ?_) (fun h => ?_) | with_reducible refine Guard_dec (fun h => ?_) (fun h => ?_) | with_reducible refine Guard_ndec (fun h => ?_) (fun h => ?_) | with_reducible refine Guard_not (fun h => ?_) (fun h => ?_) | with_reducible refine IfB_ndec (fun h => ?_) (fun h => ?_) | with_reducible refine IfB_not (fun h => ?_) (fun h => ?_) | with_reducible refine Guard_split (fun h => ?_) (fun h => ?_) | with_reducible refine IfB_split (fun h => ?_) (fun h => ?_))
  refine (cs _).mono ?_
  rintro v H1 ⟨o, k⟩
  clear cs
  obtain ⟨p, ps, rfl, ot⟩ := TkO.start o h1
  clear o
  have o := ot
  clear ot
  have hb1 := k.get (b := H.length + 1) (B := ⟨[.nils], 0, .full⟩) (by rw [hgetk]; rfl) (by simp)
  have hpl := o.lt
  have hpg := o.ge
  have kH : Keep none H H1 := (Keep.app none H _).trans k
  simp only [List.length_append, List.length_cons, List.length_nil] at hpg
  have hl1 : H.length + 2 ≤ H1.length := by have := k.len; simpa using this
  repeat' (first | simp only [go_sem, Nat.reduceLT, Nat.reduceEqDiff, Nat.reduceAdd, Nat.reduceMul, Nat.reduceSub, Nat.reduceLeDiff, Int.reduceToNat, Int.reduceNeg, Int.reduceLT, Int.reduceLE, Int.reduceEq, reduceCtorEq, Int.natCast_zero, Int.natCast_one, Int.cast_ofNat_Int, Bool.not_not, false_eq_decide, true_eq_decide, hread0, hreadk, read_cons0, read_consk, astore_h0, astore_hk, hget0, hgetk, hset0, hsetk, hlen, hcat, Nat.add_assoc, Nat.add_zero, Nat.zero_add, List.length_append, and_true, true_and, AV.flat, *, -hK, -o, -k, -kH] | with_reducible refine IfB_dec (fun h => ?_) (fun h => ?_) | with_reducible refine Guard_dec (fun h => ?_) (fun h => ?_) | with_reducible refine Guard_ndec (fun h => ?_) (fun h => ?_) | with_reducible refine Guard_not (fun h => ?_) (fun h => ?_) | with_reducible refine IfB_ndec (fun h => ?_) (fun h => ?_) | with_reducible refine IfB_not (fun h => ?_) (fun h => ?_) | with_reducible refine Guard_split (fun h => ?_) (fun h => ?_) | with_reducible refine IfB_split (fun h => ?_) (fun h => ?_))
  generalize hG : (H1 ++ [(⟨[.sl p 0 l.length none], 0, .full⟩ : Blk)] : Heap) = G
  have o0 : TkO (H.length + 2) G p 0 ps l := by
    have o2 := o.moved (Keep.app none H1 [(⟨[.sl p 0 l.length none], 0, .full⟩ : Blk)])
    rw [hG] at o2
    exact o2.weaken (by simp)
  have kG : Keep none H G := by rw [← hG]; exact kH.trans (Keep.app _ _ _)
  have gb : G[H1.length]? = some (⟨[.sl p 0 l.length none], 0, .full⟩ : Blk) := by rw [← hG, hget0]; rfl
  have gr : G[H.length + 1]? = some (⟨[.nils], 0, .full⟩ : Blk) := by rw [← hG, List.getElem?_append_left (by omega)]; exact hb1
  have hGl : G.length = H1.length + 1 := by rw [← hG]; simp
  clear hG o kH
  refine WX_loopS [2, 3, 11] (fun k fr' J => ∃ (i : Nat) (qs : List (AV × AV)), k = l.length - i ∧ i ≤ l.length ∧ fr'.get 12 = .int .i64 i ∧ TkO (H.length + 2) J p i qs l ∧ Keep none H J ∧ J[H1.length]? = some (⟨[.sl p 0 l.length none], 0, .full⟩ : Blk) ∧ J[H.length + 1]? = some (⟨[.nils], 0, .full⟩ : Blk)) l.length ⟨0, ps, rfl, by omega, by simp only [go_sem, Nat.reduceLT, Nat.reduceEqDiff, Nat.reduceAdd, Nat.reduceMul, Nat.reduceSub, Nat.reduceLeDiff, Int.reduceToNat, Int.reduceNeg, Int.reduceLT, Int.reduceLE, Int.reduceEq, reduceCtorEq]; rfl, o0, kG, gb, gr⟩ ?_
  clear o0 kG gb gr G hGl hb1 k
  rintro k fr' J A R hA hs hg hR ⟨i, qs, rfl, hi, f12, o, kk, gb, gr⟩
  have s2 := hg 2 (by decide)
  have s3 := hg 3 (by decide)
  have s11 := hg 11 (by decide)
  simp only [Fr.get_put, Fr.get_init, List.getD_cons_zero, List.getD_cons_succ, Nat.reduceEqDiff, if_true, if_false] at s2 s3 s11
  refine wx_sound hT _ ?_
  by_cases hlt : i < l.length
  rotate_left
  · have i1 : ¬ (i : Int) < l.length := by omega
    have hie : i = l.length := by omega
    repeat' (first | simp only [go_sem, Nat.reduceLT, Nat.reduceEqDiff, Nat.reduceAdd, Nat.reduceMul, Nat.reduceSub, Nat.reduceLeDiff, Int.reduceToNat, Int.reduceNeg, Int.reduceLT, Int.reduceLE, Int.reduceEq, reduceCtorEq, Int.natCast_zero, Int.natCast_one, Int.cast_ofNat_Int, Bool.not_not, false_eq_decide, true_eq_decide, hread0, hreadk, read_cons0, read_consk, astore_h0, astore_hk, hget0, hgetk, hset0, hsetk, hlen, hcat, Nat.add_assoc, Nat.add_zero, Nat.zero_add, List.length_append, and_true, true_and, AV.flat, gb, get_app gb, read_get gb, read_app gb, astore_get gb, astore_app gb, get_set gb, get_set_app gb, read_set gb, read_set_app gb, astore_set gb, astore_set_app gb, List.set_set, hget0s, hgetks, hread0s, hreadks, List.length_set, gr, get_app gr, read_get gr, read_app gr, astore_get gr, astore_app gr, get_set gr, get_set_app gr, read_set gr, read_set_app gr, astore_set gr, astore_set_app gr, List.set_set, hget0s, hgetks, hread0s, hreadks, List.length_set, *, -hK, -o, -kk, -hie] | with_reducible refine IfB_dec (fun h => ?_) (fun h => ?_) | with_reducible refine Guard_dec (fun h => ?_) (fun h => ?_) | with_reducible refine Guard_ndec (fun h => ?_) (fun h => ?_) | with_reducible refine Guard_not (fun h => ?_) (fun h => ?_) | with_reducible refine IfB_ndec (fun h => ?_) (fun h => ?_) | with_reducible refine IfB_not (fun h => ?_) (fun h => ?_) | with_reducible refine Guard_split (fun h => ?_) (fun h => ?_) | with_reducible refine IfB_split (fun h => ?_) (fun h => ?_))
    subst hie
    refine hK _ _ ⟨p, qs, rfl, ?_, ?_⟩
    · exact (o.low fun b hb hb2 => by rw [List.getElem?_set_ne (by omega)]).weaken (by omega)
    · exact ⟨by have := kk.len; simpa using this, fun b hb _ => by rw [List.getElem?_set_ne (by omega)]; exact kk.at_ b hb (by simp)⟩
  have i1 : (i : Int) < l.length := by omega
  have e1 := TkO.addr (T' := T) (p := p) se22 hlt
  have e3 := inc_id hlt (show l.length ≤ 140737488355328 by omega)
  obtain ⟨x, hx, ht, hon⟩ := o.get hlt
  obtain ⟨-, x2, -, x4⟩ := o.el i x _ hx ht
  replace x2 := x2 (Nat.le_refl _)
  have r1 := o.readN hx
  rw [x2] at r1
  have cs := fun J => nclone_own l[i].ns (by have := hns _ (List.getElem_mem hlt); omega) J
  repeat' (first | simp only [go_sem, Nat.reduceLT, Nat.reduceEqDiff, Nat.reduceAdd, Nat.reduceMul, Nat.reduceSub, Nat.reduceLeDiff, Int.reduceToNat, Int.reduceNeg, Int.reduceLT, Int.reduceLE, Int.reduceEq, reduceCtorEq, Int.natCast_zero, Int.natCast_one, Int.cast_ofNat_Int, Bool.not_not, false_eq_decide, true_eq_decide, hread0, hreadk, read_cons0, read_consk, astore_h0, astore_hk, hget0, hgetk, hset0, hsetk, hlen, hcat, Nat.add_assoc, Nat.add_zero, Nat.zero_add, List.length_append, and_true, true_and, AV.flat, gb, get_app gb, read_get gb, read_app gb, astore_get gb, astore_app gb, get_set gb, get_set_app gb, read_set gb, read_set_app gb, astore_set gb, astore_set_app gb, List.set_set, hget0s, hgetks, hread0s, hreadks, List.length_set, gr, get_app gr, read_get gr, read_app gr, astore_get gr, astore_app gr, get_set gr, get_set_app gr, read_set gr, read_set_app gr, astore_set gr, astore_set_app gr, List.set_set, hget0s, hgetks, hread0s, hreadks, List.length_set, *, -hK, -o, -kk, -x4, -x2, -hon, -ht, -hx, -cs] | with_reducible refine IfB_dec (fun h => ?_) (fun h => ?_) | with_reducible refine Guard_dec (fun h => ?_) (fun h => ?_) | with_reducible refine Guard_ndec (fun h => ?_) (fun h => ?_) | with_reducible refine Guard_not (fun h => ?_) (fun h => ?_) | with_reducible refine IfB_ndec (fun h => ?_) (fun h => ?_) | with_reducible refine IfB_not (fun h => ?_) (fun h => ?_) | with_reducible refine Guard_split (fun h => ?_) (fun h => ?_) | with_reducible refine IfB_split (fun h => ?_) (fun h => ?_))
  refine WX_rows hT hmix [(0, none), (1, none), (2, none), (3, none), (4, none), (5, none), (6, none), (7, none), (8, none), (9, some [true, true, true, true, true, true, false, false, false]), (10, none), (11, none), (12, some [true, true, true, true, true, true, true, true, true, true, true, true])] (by kernel_rfl) ?_
  repeat' (first | simp only [go_sem, Nat.reduceLT, Nat.reduceEqDiff, Nat.reduceAdd, Nat.reduceMul, Nat.reduceSub, Nat.reduceLeDiff, Int.reduceToNat, Int.reduceNeg, Int.reduceLT, Int.reduceLE, Int.reduceEq, reduceCtorEq, Int.natCast_zero, Int.natCast_one, Int.cast_ofNat_Int, Bool.not_not, false_eq_decide, true_eq_decide, hread0, hreadk, read_cons0, read_consk, astore_h0, astore_hk, hget0, hgetk, hset0, hsetk, hlen, hcat, Nat.add_assoc, Nat.add_zero, Nat.zero_add, List.length_append, and_true, true_and, AV.flat, gb, get_app gb, read_get gb, read_app gb, astore_get gb, astore_app gb, get_set gb, get_set_app gb, read_set gb, read_set_app gb, astore_set gb, astore_set_app gb, List.set_set, hget0s, hgetks, hread0s, hreadks, List.length_set, gr, get_app gr, read_get gr, read_app gr, astore_get gr, astore_app gr, get_set gr, get_set_app gr, read_set gr, read_set_app gr, astore_set gr, astore_set_app gr, List.set_set, hget0s, hgetks, hread0s, hreadks, List.length_set, *, -hK, -o, -kk, -x4, -x2, -hon, -ht, -hx, -cs] | with_reducible refine IfB_dec (fun h => ?_) (fun h => ?_) | with_reducible refine Guard_dec (fun h => ?_) (fun h => ?_) | with_reducible refine Guard_ndec (fun h => ?_) (fun h => ?_) | with_reducible refine Guard_not (fun h => ?_) (fun h => ?_) | with_reducible refine IfB_ndec (fun h => ?_) (fun h => ?_) | with_reducible refine IfB_not (fun h => ?_) (fun h => ?_) | with_reducible refine Guard_split (fun h => ?_) (fun h => ?_) | with_reducible refine IfB_split (fun h => ?_) (fun h => ?_))
  refine (cs _).mono ?_
  rintro s J2 ⟨os, k2⟩
  obtain ⟨s1, s2⟩ := OwnE.sc os
  have hs1 := os.one
  have hJl := kk.len
  obtain ⟨st, rest, hst, w1⟩ := o.storeN (T' := T) hx (k2.at_ p o.lt (by simp)) (te := 34) (by simp only [asize, td34, Option.map_some]) hs1 s1 s2
  have o3 := o.upd' (y := (x.1, s)) (t2 := l[i]) (k2 := i + 1) hx ht (.inr ⟨rfl, rfl⟩) (k2.weak) hon (os.mono (by have := o.lt; have := o.ge; omega)) (fun b hb => .inr (os.ge hb)) rest st hst
  rw [list_set_self ht] at o3
  have kp : ∀ B, Keep none H (List.set J2 p B) := fun B => ⟨by have := k2.len; simp; omega, fun b hb _ => by
    rw [List.getElem?_set_ne (by have := o.ge; omega), k2.at_ b (by omega) (by simp)]; exact kk.at_ b hb (by simp)⟩
  have hpg := o.ge
  have gb2 : ∀ B, (List.set J2 p B)[H1.length]? = some (⟨[.sl p 0 l.length none], 0, .full⟩ : Blk) := fun B => by
    rw [List.getElem?_set_ne (by omega)]; exact k2.get gb (by simp)
  have gr2 : ∀ B, (List.set J2 p B)[H.length + 1]? = some (⟨[.nils], 0, .full⟩ : Blk) := fun B => by
    rw [List.getElem?_set_ne (by omega)]; exact k2.get gr (by simp)
  have gb3 := k2.get gb (by simp)
  repeat' (first | simp only [go_sem, Nat.reduceLT, Nat.reduceEqDiff, Nat.reduceAdd, Nat.reduceMul, Nat.reduceSub, Nat.reduceLeDiff, Int.reduceToNat, Int.reduceNeg, Int.reduceLT, Int.reduceLE, Int.reduceEq, reduceCtorEq, Int.natCast_zero, Int.natCast_one, Int.cast_ofNat_Int, Bool.not_not, false_eq_decide, true_eq_decide, hread0, hreadk, read_cons0, read_consk, astore_h0, astore_hk, hget0, hgetk, hset0, hsetk, hlen, hcat, Nat.add_assoc, Nat.add_zero, Nat.zero_add, List.length_append, and_true, true_and, AV.flat, hs1, one_solid hs1, one_cells hs1, gb3, get_app gb3, read_get gb3, read_app gb3, *, -hK, -o, -kk, -x4, -x2, -hon, -ht, -hx, -cs, -o3, -kp, -gb2, -gr2, -os, -k2, -s1, -s2] | with_reducible refine IfB_dec (fun h => ?_) (fun h => ?_) | with_reducible refine Guard_dec (fun h => ?_) (fun h => ?_) | with_reducible refine Guard_ndec (fun h => ?_) (fun h => ?_) | with_reducible refine Guard_not (fun h => ?_) (fun h => ?_) | with_reducible refine IfB_ndec (fun h => ?_) (fun h => ?_) | with_reducible refine IfB_not (fun h => ?_) (fun h => ?_) | with_reducible refine Guard_split (fun h => ?_) (fun h => ?_) | with_reducible refine IfB_split (fun h => ?_) (fun h => ?_))
  exact hR _ _ (by (repeat (first | exact hs | refine hA _ _ _ (by decide) ?_))) (l.length - (i + 1)) (by omega) ⟨i + 1, _, rfl, by omega, by simp only [go_sem, Nat.reduceLT, Nat.reduceEqDiff, Nat.reduceAdd, Nat.reduceMul, Nat.reduceSub, Nat.reduceLeDiff, Int.reduceToNat, Int.reduceNeg, Int.reduceLT, Int.reduceLE, Int.reduceEq, reduceCtorEq], o3, kp _, gb2 _, gr2 _⟩
end Go.Proofs.Ytccfhighlpfdmaa

