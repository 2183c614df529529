import Derived.Test.YtphenbpognaddaaBagB
import Derived.Test.YtphenbpognaddaaPiU
set_option linter.unusedSimpArgs false
set_option linter.unusedVariables false
set_option maxRecDepth 100000
set_option maxHeartbeats 2000000
namespace Go.Proofs.Ytphenbpognaddaa
open Go Go.Proofs Go.Proofs.PI
theorem alive_spec (H : Heap) : WC Try.prog 19 [] H fun r H' => r = .bool true ∧ H' = H := closed_true (k := 100) (by kernel_rfl) H
theorem piecesGo_cat {b : List UInt8} (hb : b.length ≤ 16384) : ∀ (l : List Int) (f : Nat) (p : List (List UInt8)), f ≤ b.length → piecesGo b f l = some p → p.length = l.length + 1 ∧ (∀ x ∈ p, x.length ≤ b.length) ∧ joinGo (b.take f) p = some b
  | [], f, p, hf, h => by
    simp only [piecesGo, Option.some.injEq] at h; subst h
    refine ⟨rfl, fun x hx => ?_, ?_⟩
    · simp at hx; subst hx; simp
    · simp only [joinGo]
      rw [if_neg (by rw [List.length_take, List.length_drop]; omega), List.take_append_drop]
  | a :: l, f, p, hf, h => by
    simp only [piecesGo] at h
    split at h
    · cases h
    · rename_i hc
      cases hq : piecesGo b a.toNat l with
      | none => rw [hq] at h; cases h
      | some q =>
        rw [hq] at h
        simp only [Option.map_some, Option.some.injEq] at h
        subst h
        obtain ⟨h1, h2, h3⟩ := piecesGo_cat hb l a.toNat q (by omega) hq
        have hle : f ≤ a.toNat := by omega
        have hcat : b.take f ++ (b.take a.toNat).drop f = b.take a.toNat := by
          have := List.take_append_drop f (b.take a.toNat); rw [List.take_take, Nat.min_eq_left hle] at this; exact this
        refine ⟨by simp [h1], fun x hx => ?_, ?_⟩
        · rcases List.mem_cons.1 hx with rfl | hx
          · simp; omega
          · exact h2 x hx
        · simp only [joinGo]
          rw [if_neg (by rw [← List.length_append, hcat, List.length_take]; omega), hcat]; exact h3
theorem pieces_ok {b : List UInt8} {l : List Int} (h : (piecesL b l).2 = 0) : (piecesL b l).1.length = l.length + 1 ∧ (∀ x ∈ (piecesL b l).1, x.length ≤ 16384) ∧ joinL (piecesL b l).1 = (b, 0) := by
  unfold piecesL at h ⊢
  split
  · rename_i h1; rw [if_pos h1] at h; cases h
  · rename_i h1; rw [if_neg h1] at h
    split
    · rename_i h2; rw [if_pos h2] at h; cases h
    · rename_i h2; rw [if_neg h2] at h
      cases hp : piecesGo b 0 l with
      | none => rw [hp] at h; cases h
      | some p =>
        obtain ⟨k1, k2, k3⟩ := piecesGo_cat (by omega) l 0 p (by omega) hp
        refine ⟨k1, fun x hx => by have := k2 x hx; omega, ?_⟩
        rw [List.take_zero] at k3
        show joinL p = _
        rw [joinL, if_neg (by omega), k3]
theorem pieces_bad {b : List UInt8} {l : List Int} (h : (piecesL b l).2 ≠ 0) : (piecesL b l).1 = [] := by
  unfold piecesL at h ⊢
  split
  · rfl
  · rename_i h1; rw [if_neg h1] at h
    split
    · rfl
    · rename_i h2; rw [if_neg h2] at h
      cases hp : piecesGo b 0 l with
      | none => rfl
      | some p => rw [hp] at h; exact absurd rfl h
theorem bagWhole_walk (H : Heap) (avs : List AV) (h : InpAll T H 9 [22, 23] avs) : WC Try.prog 7 avs H fun v _ => v = .bool true := by
  obtain ⟨a0, _, rfl, h0, h⟩ := h.cons
  obtain ⟨a1, _, rfl, h1, h⟩ := h.cons
  obtain rfl := h.nil
  obtain ⟨b, hb, hbl⟩ := Inp.bytes tk22 tk5 (by simp [asize, td5]) h0
  obtain ⟨l, hl, hll, _⟩ := Inp.ints tk23 tk3 (by simp [asize, td3]) h1
  clear h0 h1 h
  refine WC_of_K fun K hK => ?_
  refine WC_of_body hT Try.func7 rfl (by simp [Try.f7]) (by simp [Try.f7]) (wx_sound hT _ ?_)
  simp only [Try.f7]
  have e0 := hb.alen tk22
  have e1 := Vs.alen hl tk23
  repeat' (first | simp only [wx_skip, wx_region, wx_draw, wx_seq, wx_cond, wx_block, wx_exit, wx_ret, wx_loop, WDr_nil, WDr_cons, WDo_none, WDo_some, drK_eq, drU_eq, efK_eq, keepAll_nil, keepAll_true, keepAll_false, RC.ok_pure, RC.ok_load, RC.ok_slice, RC.ok_bytes, RC.ok_blk, mkRC, XThen_normal, XThen_exit, XThen_ret, XBlock_normal, XBlock_ret, XBlock_eq, WOps_nil, WOps_cons, WOp, WCall, wantd, dstOk, apure, aun, anilCheck, aextract, afieldAddr, afieldOff, afield, apart, aindexAddr_sl, aindex, aconv, amakeFunc, alen_str, alen_sl, alen_nils, alen_emp, alen_nul, alen_lst, alen_enc, one_enc, solid_enc, cells_enc, one_nul, solid_nul, cells_nul, one_lst, solid_lst, cells_lst, one_cptr, solid_cptr, cells_cptr, amin, amax, abin, aint, astr, aeq, aeqIn, aeqFs, aeqIn, aeqFs, tk, asize, asliceElem, azero, aalloc, aload, read_last_cons, abytes, abytesStr_sl, Fr.ev, cav, cav1, Fr.get_put, Fr.put_none, Fr.get_init, ares, resOf, atH_eq, opH_eq, undefK_eq, snocK_eq, callK_eq, opsK_eq, codeK_eq, bodyK_ret, bodyK_normal, On_some, On1_some, OnB_some, OnH_some, Guard_true, Guard_false, IfB_true, IfB_false, OnFn_fn, St.own, St.alive, TK.isAgg, one_int, solid_int, cells_int, one_bool, solid_bool, cells_bool, one_str, solid_str, cells_str, one_nilp, solid_nilp, cells_nilp, one_ptr, solid_ptr, cells_ptr, one_nils, solid_nils, cells_nils, one_emp, solid_emp, cells_emp, one_sl, solid_sl, cells_sl, one_fn, solid_fn, cells_fn, one_nilf, solid_nilf, cells_nilf, solid_agg, cells_agg, sliceNil_nils, sliceNil_sl, sliceNil_emp, ptrNil_nilp, ptrNil_ptr, wr, apartsFill, abuild, aplaces, reps, Nat.reduceLT, Nat.reduceEqDiff, Nat.reduceAdd, Nat.reduceMul, Nat.reduceSub, Nat.reduceLeDiff, Int.reduceToNat, Int.reduceNeg, Int.reduceLT, Int.reduceLE, Int.reduceEq, if_true, if_false, true_and, and_true, and_self, reduceCtorEq, decide_true, decide_false, Bool.and_true, Bool.true_and, Bool.and_false, Bool.false_and, Bool.not_true, Bool.not_false, Bool.false_eq_true, beq_self_eq_true, cond_true, cond_false, Option.map_some, Option.map_none, Option.bind_some, Option.bind_none, List.map_cons, List.map_nil, List.all_cons, List.all_nil, List.set_cons_zero, List.set_cons_succ, List.length_cons, List.length_nil, List.getElem?_cons_zero, List.getElem?_cons_succ, List.getD_cons_zero, List.getD_cons_succ, List.drop_zero, List.drop_succ_cons, List.take_succ_cons, List.take_zero, List.replicate_succ, List.replicate_zero, List.flatten_cons, List.flatten_nil, List.append_nil, List.nil_append, List.cons_append, Nat.le_refl, ne_eq, not_true_eq_false, not_false_eq_true, Int.natCast_zero, Bool.not_not, false_eq_decide, true_eq_decide, hread0, hreadk, read_cons0, read_consk, astore_h0, astore_hk, hget0, hgetk, hset0, hsetk, hlen, hcat, Nat.add_assoc, Nat.add_zero, Nat.zero_add, List.length_append, and_true, true_and, AV.flat, td3, td4, td5, td9, td22, td23, td24, td27, *, -hK] | refine WC.call (alive_spec _) ?_ | with_reducible refine IfB_dec (fun h => ?_) (fun h => ?_) | with_reducible refine Guard_dec (fun h => ?_) (fun h => ?_) | with_reducible refine Guard_ndec (fun h => ?_) (fun h => ?_) | with_reducible refine Guard_not (fun h => ?_) (fun h => ?_) | with_reducible refine IfB_ndec (fun h => ?_) (fun h => ?_) | with_reducible refine IfB_not (fun h => ?_) (fun h => ?_) | with_reducible refine Guard_split (fun h => ?_) (fun h => ?_) | with_reducible refine IfB_split (fun h => ?_) (fun h => ?_))
  case refine_1.refine_1 => with_reducible exact hK _ _ rfl
  rotate_left
  · with_reducible exact hK _ _ rfl
  have l1 : b.length ≤ 100000 := by omega
  have l2 : l.length ≤ 1000 := by omega
  refine (pieces_spec a0 a1 b l (by omega) _ hb hl).mono ?_
  rintro r H1 ⟨⟨vl, rfl, ol⟩, k1⟩
  by_cases hp : (piecesL b l).2 = 0
  · obtain ⟨q1, q2, q3⟩ := pieces_ok hp
    have e2 := (Obs.sl ol).alen tk24
    rw [q1] at e2
    have q4 : ∀ x ∈ (piecesL b l).1, x.length ≤ 140737488355328 := fun x hx => by have := q2 x hx; omega
    repeat' (first | simp only [wx_skip, wx_region, wx_draw, wx_seq, wx_cond, wx_block, wx_exit, wx_ret, wx_loop, WDr_nil, WDr_cons, WDo_none, WDo_some, drK_eq, drU_eq, efK_eq, keepAll_nil, keepAll_true, keepAll_false, RC.ok_pure, RC.ok_load, RC.ok_slice, RC.ok_bytes, RC.ok_blk, mkRC, XThen_normal, XThen_exit, XThen_ret, XBlock_normal, XBlock_ret, XBlock_eq, WOps_nil, WOps_cons, WOp, WCall, wantd, dstOk, apure, aun, anilCheck, aextract, afieldAddr, afieldOff, afield, apart, aindexAddr_sl, aindex, aconv, amakeFunc, alen_str, alen_sl, alen_nils, alen_emp, alen_nul, alen_lst, alen_enc, one_enc, solid_enc, cells_enc, one_nul, solid_nul, cells_nul, one_lst, solid_lst, cells_lst, one_cptr, solid_cptr, cells_cptr, amin, amax, abin, aint, astr, aeq, aeqIn, aeqFs, aeqIn, aeqFs, tk, asize, asliceElem, azero, aalloc, aload, read_last_cons, abytes, abytesStr_sl, Fr.ev, cav, cav1, Fr.get_put, Fr.put_none, Fr.get_init, ares, resOf, atH_eq, opH_eq, undefK_eq, snocK_eq, callK_eq, opsK_eq, codeK_eq, bodyK_ret, bodyK_normal, On_some, On1_some, OnB_some, OnH_some, Guard_true, Guard_false, IfB_true, IfB_false, OnFn_fn, St.own, St.alive, TK.isAgg, one_int, solid_int, cells_int, one_bool, solid_bool, cells_bool, one_str, solid_str, cells_str, one_nilp, solid_nilp, cells_nilp, one_ptr, solid_ptr, cells_ptr, one_nils, solid_nils, cells_nils, one_emp, solid_emp, cells_emp, one_sl, solid_sl, cells_sl, one_fn, solid_fn, cells_fn, one_nilf, solid_nilf, cells_nilf, solid_agg, cells_agg, sliceNil_nils, sliceNil_sl, sliceNil_emp, ptrNil_nilp, ptrNil_ptr, wr, apartsFill, abuild, aplaces, reps, Nat.reduceLT, Nat.reduceEqDiff, Nat.reduceAdd, Nat.reduceMul, Nat.reduceSub, Nat.reduceLeDiff, Int.reduceToNat, Int.reduceNeg, Int.reduceLT, Int.reduceLE, Int.reduceEq, if_true, if_false, true_and, and_true, and_self, reduceCtorEq, decide_true, decide_false, Bool.and_true, Bool.true_and, Bool.and_false, Bool.false_and, Bool.not_true, Bool.not_false, Bool.false_eq_true, beq_self_eq_true, cond_true, cond_false, Option.map_some, Option.map_none, Option.bind_some, Option.bind_none, List.map_cons, List.map_nil, List.all_cons, List.all_nil, List.set_cons_zero, List.set_cons_succ, List.length_cons, List.length_nil, List.getElem?_cons_zero, List.getElem?_cons_succ, List.getD_cons_zero, List.getD_cons_succ, List.drop_zero, List.drop_succ_cons, List.take_succ_cons, List.take_zero, List.replicate_succ, List.replicate_zero, List.flatten_cons, List.flatten_nil, List.append_nil, List.nil_append, List.cons_append, Nat.le_refl, ne_eq, not_true_eq_false, not_false_eq_true, Int.natCast_zero, Bool.not_not, false_eq_decide, true_eq_decide, hread0, hreadk, read_cons0, read_consk, astore_h0, astore_hk, hget0, hgetk, hset0, hsetk, hlen, hcat, Nat.add_assoc, Nat.add_zero, Nat.zero_add, List.length_append, and_true, true_and, AV.flat, td3, td4, td5, td9, td22, td23, td24, td27, *, -hK, -q1, -q3] | with_reducible refine IfB_dec (fun h => ?_) (fun h => ?_) | with_reducible refine Guard_dec (fun h => ?_) (fun h => ?_) | with_reducible refine Guard_ndec (fun h => ?_) (fun h => ?_) | with_reducible refine Guard_not (fun h => ?_) (fun h => ?_) | with_reducible refine IfB_ndec (fun h => ?_) (fun h => ?_) | with_reducible refine IfB_not (fun h => ?_) (fun h => ?_) | with_reducible refine Guard_split (fun h => ?_) (fun h => ?_) | with_reducible refine IfB_split (fun h => ?_) (fun h => ?_))
    refine (join_spec vl _ q4 (by omega) _ (Obs.sl ol)).mono ?_
    rintro r H2 ⟨⟨vc, rfl, oc⟩, k2⟩
    rw [q3] at oc ⊢
    have k12 := k1.trans k2
    have e3 := ((Obs.sl ol).keep0 k2).alen tk24
    rw [q1] at e3
    have e4 := oc.bs.str se22 tk9 tk5
    have e5 := (hb.keep0 k12).str se22 tk9 tk5
    have e6 := Vs.alen (Vs.keep0 hl k12) tk23
    have e7 : IntKind.i64.wrap ((l.length : Int) + 1) = ((l.length + 1 : Nat) : Int) := by rw [IntKind.wrap_i64]; omega
    repeat' (first | simp only [wx_skip, wx_region, wx_draw, wx_seq, wx_cond, wx_block, wx_exit, wx_ret, wx_loop, WDr_nil, WDr_cons, WDo_none, WDo_some, drK_eq, drU_eq, efK_eq, keepAll_nil, keepAll_true, keepAll_false, RC.ok_pure, RC.ok_load, RC.ok_slice, RC.ok_bytes, RC.ok_blk, mkRC, XThen_normal, XThen_exit, XThen_ret, XBlock_normal, XBlock_ret, XBlock_eq, WOps_nil, WOps_cons, WOp, WCall, wantd, dstOk, apure, aun, anilCheck, aextract, afieldAddr, afieldOff, afield, apart, aindexAddr_sl, aindex, aconv, amakeFunc, alen_str, alen_sl, alen_nils, alen_emp, alen_nul, alen_lst, alen_enc, one_enc, solid_enc, cells_enc, one_nul, solid_nul, cells_nul, one_lst, solid_lst, cells_lst, one_cptr, solid_cptr, cells_cptr, amin, amax, abin, aint, astr, aeq, aeqIn, aeqFs, aeqIn, aeqFs, tk, asize, asliceElem, azero, aalloc, aload, read_last_cons, abytes, abytesStr_sl, Fr.ev, cav, cav1, Fr.get_put, Fr.put_none, Fr.get_init, ares, resOf, atH_eq, opH_eq, undefK_eq, snocK_eq, callK_eq, opsK_eq, codeK_eq, bodyK_ret, bodyK_normal, On_some, On1_some, OnB_some, OnH_some, Guard_true, Guard_false, IfB_true, IfB_false, OnFn_fn, St.own, St.alive, TK.isAgg, one_int, solid_int, cells_int, one_bool, solid_bool, cells_bool, one_str, solid_str, cells_str, one_nilp, solid_nilp, cells_nilp, one_ptr, solid_ptr, cells_ptr, one_nils, solid_nils, cells_nils, one_emp, solid_emp, cells_emp, one_sl, solid_sl, cells_sl, one_fn, solid_fn, cells_fn, one_nilf, solid_nilf, cells_nilf, solid_agg, cells_agg, sliceNil_nils, sliceNil_sl, sliceNil_emp, ptrNil_nilp, ptrNil_ptr, wr, apartsFill, abuild, aplaces, reps, Nat.reduceLT, Nat.reduceEqDiff, Nat.reduceAdd, Nat.reduceMul, Nat.reduceSub, Nat.reduceLeDiff, Int.reduceToNat, Int.reduceNeg, Int.reduceLT, Int.reduceLE, Int.reduceEq, if_true, if_false, true_and, and_true, and_self, reduceCtorEq, decide_true, decide_false, Bool.and_true, Bool.true_and, Bool.and_false, Bool.false_and, Bool.not_true, Bool.not_false, Bool.false_eq_true, beq_self_eq_true, cond_true, cond_false, Option.map_some, Option.map_none, Option.bind_some, Option.bind_none, List.map_cons, List.map_nil, List.all_cons, List.all_nil, List.set_cons_zero, List.set_cons_succ, List.length_cons, List.length_nil, List.getElem?_cons_zero, List.getElem?_cons_succ, List.getD_cons_zero, List.getD_cons_succ, List.drop_zero, List.drop_succ_cons, List.take_succ_cons, List.take_zero, List.replicate_succ, List.replicate_zero, List.flatten_cons, List.flatten_nil, List.append_nil, List.nil_append, List.cons_append, Nat.le_refl, ne_eq, not_true_eq_false, not_false_eq_true, Int.natCast_zero, Bool.not_not, false_eq_decide, true_eq_decide, hread0, hreadk, read_cons0, read_consk, astore_h0, astore_hk, hget0, hgetk, hset0, hsetk, hlen, hcat, Nat.add_assoc, Nat.add_zero, Nat.zero_add, List.length_append, and_true, true_and, AV.flat, td3, td4, td5, td9, td22, td23, td24, td27, *, -hK, -q1, -q3] | with_reducible refine IfB_dec (fun h => ?_) (fun h => ?_) | with_reducible refine Guard_dec (fun h => ?_) (fun h => ?_) | with_reducible refine Guard_ndec (fun h => ?_) (fun h => ?_) | with_reducible refine Guard_not (fun h => ?_) (fun h => ?_) | with_reducible refine IfB_ndec (fun h => ?_) (fun h => ?_) | with_reducible refine IfB_not (fun h => ?_) (fun h => ?_) | with_reducible refine Guard_split (fun h => ?_) (fun h => ?_) | with_reducible refine IfB_split (fun h => ?_) (fun h => ?_))
    all_goals with_reducible exact hK _ _ rfl
  · have q1 := pieces_bad hp
    have e2 := (Obs.sl ol).alen tk24
    rw [q1] at e2
    repeat' (first | simp only [wx_skip, wx_region, wx_draw, wx_seq, wx_cond, wx_block, wx_exit, wx_ret, wx_loop, WDr_nil, WDr_cons, WDo_none, WDo_some, drK_eq, drU_eq, efK_eq, keepAll_nil, keepAll_true, keepAll_false, RC.ok_pure, RC.ok_load, RC.ok_slice, RC.ok_bytes, RC.ok_blk, mkRC, XThen_normal, XThen_exit, XThen_ret, XBlock_normal, XBlock_ret, XBlock_eq, WOps_nil, WOps_cons, WOp, WCall, wantd, dstOk, apure, aun, anilCheck, aextract, afieldAddr, afieldOff, afield, apart, aindexAddr_sl, aindex, aconv, amakeFunc, alen_str, alen_sl, alen_nils, alen_emp, alen_nul, alen_lst, alen_enc, one_enc, solid_enc, cells_enc, one_nul, solid_nul, cells_nul, one_lst, solid_lst, cells_lst, one_cptr, solid_cptr, cells_cptr, amin, amax, abin, aint, astr, aeq, aeqIn, aeqFs, aeqIn, aeqFs, tk, asize, asliceElem, azero, aalloc, aload, read_last_cons, abytes, abytesStr_sl, Fr.ev, cav, cav1, Fr.get_put, Fr.put_none, Fr.get_init, ares, resOf, atH_eq, opH_eq, undefK_eq, snocK_eq, callK_eq, opsK_eq, codeK_eq, bodyK_ret, bodyK_normal, On_some, On1_some, OnB_some, OnH_some, Guard_true, Guard_false, IfB_true, IfB_false, OnFn_fn, St.own, St.alive, TK.isAgg, one_int, solid_int, cells_int, one_bool, solid_bool, cells_bool, one_str, solid_str, cells_str, one_nilp, solid_nilp, cells_nilp, one_ptr, solid_ptr, cells_ptr, one_nils, solid_nils, cells_nils, one_emp, solid_emp, cells_emp, one_sl, solid_sl, cells_sl, one_fn, solid_fn, cells_fn, one_nilf, solid_nilf, cells_nilf, solid_agg, cells_agg, sliceNil_nils, sliceNil_sl, sliceNil_emp, ptrNil_nilp, ptrNil_ptr, wr, apartsFill, abuild, aplaces, reps, Nat.reduceLT, Nat.reduceEqDiff, Nat.reduceAdd, Nat.reduceMul, Nat.reduceSub, Nat.reduceLeDiff, Int.reduceToNat, Int.reduceNeg, Int.reduceLT, Int.reduceLE, Int.reduceEq, if_true, if_false, true_and, and_true, and_self, reduceCtorEq, decide_true, decide_false, Bool.and_true, Bool.true_and, Bool.and_false, Bool.false_and, Bool.not_true, Bool.not_false, Bool.false_eq_true, beq_self_eq_true, cond_true, cond_false, Option.map_some, Option.map_none, Option.bind_some, Option.bind_none, List.map_cons, List.map_nil, List.all_cons, List.all_nil, List.set_cons_zero, List.set_cons_succ, List.length_cons, List.length_nil, List.getElem?_cons_zero, List.getElem?_cons_succ, List.getD_cons_zero, List.getD_cons_succ, List.drop_zero, List.drop_succ_cons, List.take_succ_cons, List.take_zero, List.replicate_succ, List.replicate_zero, List.flatten_cons, List.flatten_nil, List.append_nil, List.nil_append, List.cons_append, Nat.le_refl, ne_eq, not_true_eq_false, not_false_eq_true, Int.natCast_zero, Bool.not_not, false_eq_decide, true_eq_decide, hread0, hreadk, read_cons0, read_consk, astore_h0, astore_hk, hget0, hgetk, hset0, hsetk, hlen, hcat, Nat.add_assoc, Nat.add_zero, Nat.zero_add, List.length_append, and_true, true_and, AV.flat, td3, td4, td5, td9, td22, td23, td24, td27, List.length_nil, *, -hK] | with_reducible refine IfB_dec (fun h => ?_) (fun h => ?_) | with_reducible refine Guard_dec (fun h => ?_) (fun h => ?_) | with_reducible refine Guard_ndec (fun h => ?_) (fun h => ?_) | with_reducible refine Guard_not (fun h => ?_) (fun h => ?_) | with_reducible refine IfB_ndec (fun h => ?_) (fun h => ?_) | with_reducible refine IfB_not (fun h => ?_) (fun h => ?_) | with_reducible refine Guard_split (fun h => ?_) (fun h => ?_) | with_reducible refine IfB_split (fun h => ?_) (fun h => ?_))
    all_goals with_reducible exact hK _ _ rfl
end Go.Proofs.Ytphenbpognaddaa
