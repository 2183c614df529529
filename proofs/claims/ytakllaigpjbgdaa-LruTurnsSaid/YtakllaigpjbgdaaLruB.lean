import Derived.Test.YtakllaigpjbgdaaLruJ
set_option linter.unusedSimpArgs false
set_option linter.unusedVariables false
set_option maxRecDepth 100000
set_option maxHeartbeats 4000000
namespace Go.Proofs.Ytakllaigpjbgdaa
open Go Go.Proofs Go.Proofs.PI
/-! ### rows of texts -/
def idxI (o : Option Nat) : Int := match o with
  | some i => (i : Int)
  | none => -1
theorem strIdx_spec (xs : List (List UInt8)) (s : List UInt8) (hn : xs.length ≤ 140737488355328) (H : Heap) :
    WC Try.prog 51 [Enc.str.lst xs, .str s] H fun r H' => r = .int .i64 (idxI (xs.findIdx? fun x => decide (s = x))) ∧ H' = H := by
  refine WC_of_K fun K hK => ?_
  refine WC_of_body hT Try.func51 rfl (by simp [Try.f51]) (by simp [Try.f51]) (wx_sound hT _ ?_)
  simp only [Try.f51]
  repeat' (first | simp only [go_sem, Nat.reduceLT, Nat.reduceEqDiff, Nat.reduceAdd, Nat.reduceMul, Nat.reduceSub, Nat.reduceLeDiff, Int.reduceToNat, Int.reduceNeg, Int.reduceLT, Int.reduceLE, Int.reduceEq, reduceCtorEq, Int.natCast_zero, Int.natCast_one, Int.cast_ofNat_Int, Bool.not_not, false_eq_decide, true_eq_decide, hread0, hreadk, read_cons0, read_consk, astore_h0, astore_hk, hget0, hgetk, hset0, hsetk, hlen, hcat, Nat.add_assoc, Nat.add_zero, Nat.zero_add, List.length_append, and_true, true_and, AV.flat, *, -hK] | with_reducible refine IfB_dec (fun h => ?_) (fun h => ?_) | with_reducible refine Guard_dec (fun h => ?_) (fun h => ?_) | with_reducible refine Guard_ndec (fun h => ?_) (fun h => ?_) | with_reducible refine Guard_not (fun h => ?_) (fun h => ?_) | with_reducible refine IfB_ndec (fun h => ?_) (fun h => ?_) | with_reducible refine IfB_not (fun h => ?_) (fun h => ?_) | with_reducible refine Guard_split (fun h => ?_) (fun h => ?_) | with_reducible refine IfB_split (fun h => ?_) (fun h => ?_))
  refine WX_loopS [0, 1, 7] (fun k fr' H' => ∃ i : Nat, k = xs.length - i ∧ i ≤ xs.length ∧ fr'.get 8 = .int .i64 i ∧ H' = H ∧ ∀ j (hj : j < i) (hx : j < xs.length), ¬ s = xs[j]) xs.length ⟨0, rfl, by omega, by simp only [go_sem, Nat.reduceLT, Nat.reduceEqDiff, Nat.reduceAdd, Nat.reduceMul, Nat.reduceSub, Nat.reduceLeDiff, Int.reduceToNat, Int.reduceNeg, Int.reduceLT, Int.reduceLE, Int.reduceEq, reduceCtorEq]; rfl, rfl, fun j hj => by omega⟩ ?_
  rintro k fr' H' A R hA hs hg hR ⟨i, rfl, hi, f8, rfl, hno⟩
  have s0 := hg 0 (by decide)
  have s1 := hg 1 (by decide)
  have s7 := hg 7 (by decide)
  simp only [Fr.get_put, Fr.get_init, List.getD_cons_zero, List.getD_cons_succ, Nat.reduceEqDiff, if_true, if_false] at s0 s1 s7
  refine wx_sound hT _ ?_
  repeat' (first | simp only [go_sem, Nat.reduceLT, Nat.reduceEqDiff, Nat.reduceAdd, Nat.reduceMul, Nat.reduceSub, Nat.reduceLeDiff, Int.reduceToNat, Int.reduceNeg, Int.reduceLT, Int.reduceLE, Int.reduceEq, reduceCtorEq, Int.natCast_zero, Int.natCast_one, Int.cast_ofNat_Int, Bool.not_not, false_eq_decide, true_eq_decide, hread0, hreadk, read_cons0, read_consk, astore_h0, astore_hk, hget0, hgetk, hset0, hsetk, hlen, hcat, Nat.add_assoc, Nat.add_zero, Nat.zero_add, List.length_append, and_true, true_and, AV.flat, *, -hK] | with_reducible refine IfB_dec (fun h => ?_) (fun h => ?_) | with_reducible refine Guard_dec (fun h => ?_) (fun h => ?_) | with_reducible refine Guard_ndec (fun h => ?_) (fun h => ?_) | with_reducible refine Guard_not (fun h => ?_) (fun h => ?_) | with_reducible refine IfB_ndec (fun h => ?_) (fun h => ?_) | with_reducible refine IfB_not (fun h => ?_) (fun h => ?_) | with_reducible refine Guard_split (fun h => ?_) (fun h => ?_) | with_reducible refine IfB_split (fun h => ?_) (fun h => ?_))
  case refine_1 =>
    have hlt : i < xs.length := by omega
    have e1 := at_enc (E := Enc.str) (k := .i64) se22 hlt rfl
    have e3 := inc_id hlt hn
    have e4 : Enc.str.cells xs[i] = [.str xs[i]] := rfl
    repeat' (first | simp only [go_sem, Nat.reduceLT, Nat.reduceEqDiff, Nat.reduceAdd, Nat.reduceMul, Nat.reduceSub, Nat.reduceLeDiff, Int.reduceToNat, Int.reduceNeg, Int.reduceLT, Int.reduceLE, Int.reduceEq, reduceCtorEq, Int.natCast_zero, Int.natCast_one, Int.cast_ofNat_Int, Bool.not_not, false_eq_decide, true_eq_decide, hread0, hreadk, read_cons0, read_consk, astore_h0, astore_hk, hget0, hgetk, hset0, hsetk, hlen, hcat, Nat.add_assoc, Nat.add_zero, Nat.zero_add, List.length_append, and_true, true_and, AV.flat, *, -hK] | with_reducible refine IfB_dec (fun h => ?_) (fun h => ?_) | with_reducible refine Guard_dec (fun h => ?_) (fun h => ?_) | with_reducible refine Guard_ndec (fun h => ?_) (fun h => ?_) | with_reducible refine Guard_not (fun h => ?_) (fun h => ?_) | with_reducible refine IfB_ndec (fun h => ?_) (fun h => ?_) | with_reducible refine IfB_not (fun h => ?_) (fun h => ?_) | with_reducible refine Guard_split (fun h => ?_) (fun h => ?_) | with_reducible refine IfB_split (fun h => ?_) (fun h => ?_))
    case refine_1 =>
      refine hK _ _ ⟨?_, rfl⟩
      have : xs.findIdx? (fun x => decide (s = x)) = some i := by
        rw [List.findIdx?_eq_some_iff_getElem]
        exact ⟨hlt, by simp [h], fun j hj => by simpa using hno j hj (by omega)⟩
      rw [this]; rfl
    case refine_2 =>
      refine hR _ _ (by (repeat (first | exact hs | refine hA _ _ _ (by decide) ?_))) (xs.length - (i + 1)) (by omega) ⟨i + 1, rfl, by omega, by simp only [go_sem, Nat.reduceLT, Nat.reduceEqDiff, Nat.reduceAdd, Nat.reduceMul, Nat.reduceSub, Nat.reduceLeDiff, Int.reduceToNat, Int.reduceNeg, Int.reduceLT, Int.reduceLE, Int.reduceEq, reduceCtorEq], rfl, fun j hj hx => ?_⟩
      · by_cases e : j = i
        · subst e; exact h
        · exact hno j (by omega) hx
  case refine_2 =>
    repeat' (first | simp only [go_sem, Nat.reduceLT, Nat.reduceEqDiff, Nat.reduceAdd, Nat.reduceMul, Nat.reduceSub, Nat.reduceLeDiff, Int.reduceToNat, Int.reduceNeg, Int.reduceLT, Int.reduceLE, Int.reduceEq, reduceCtorEq, Int.natCast_zero, Int.natCast_one, Int.cast_ofNat_Int, Bool.not_not, false_eq_decide, true_eq_decide, hread0, hreadk, read_cons0, read_consk, astore_h0, astore_hk, hget0, hgetk, hset0, hsetk, hlen, hcat, Nat.add_assoc, Nat.add_zero, Nat.zero_add, List.length_append, and_true, true_and, AV.flat, *, -hK] | with_reducible refine IfB_dec (fun h => ?_) (fun h => ?_) | with_reducible refine Guard_dec (fun h => ?_) (fun h => ?_) | with_reducible refine Guard_ndec (fun h => ?_) (fun h => ?_) | with_reducible refine Guard_not (fun h => ?_) (fun h => ?_) | with_reducible refine IfB_ndec (fun h => ?_) (fun h => ?_) | with_reducible refine IfB_not (fun h => ?_) (fun h => ?_) | with_reducible refine Guard_split (fun h => ?_) (fun h => ?_) | with_reducible refine IfB_split (fun h => ?_) (fun h => ?_))
    refine hK _ _ ⟨?_, rfl⟩
    have : xs.findIdx? (fun x => decide (s = x)) = none := by
      rw [List.findIdx?_eq_none_iff]
      intro x hx
      obtain ⟨j, hj, rfl⟩ := List.getElem_of_mem hx
      simpa using hno j (by omega) hj
    rw [this]; rfl
theorem strHas_spec (xs : List (List UInt8)) (s : List UInt8) (hn : xs.length ≤ 140737488355328) (H : Heap) :
    WC Try.prog 45 [Enc.str.lst xs, .str s] H fun r H' => r = .bool (decide (s ∈ xs)) ∧ H' = H := by
  refine WC_of_K fun K hK => ?_
  refine WC_of_body hT Try.func45 rfl (by simp [Try.f45]) (by simp [Try.f45]) (wx_sound hT _ ?_)
  simp only [Try.f45]
  repeat' (first | simp only [go_sem, Nat.reduceLT, Nat.reduceEqDiff, Nat.reduceAdd, Nat.reduceMul, Nat.reduceSub, Nat.reduceLeDiff, Int.reduceToNat, Int.reduceNeg, Int.reduceLT, Int.reduceLE, Int.reduceEq, reduceCtorEq, Int.natCast_zero, Int.natCast_one, Int.cast_ofNat_Int, Bool.not_not, false_eq_decide, true_eq_decide, hread0, hreadk, read_cons0, read_consk, astore_h0, astore_hk, hget0, hgetk, hset0, hsetk, hlen, hcat, Nat.add_assoc, Nat.add_zero, Nat.zero_add, List.length_append, and_true, true_and, AV.flat, *, -hK] | refine WC.call (strIdx_spec xs s hn _) ?_ | with_reducible refine IfB_dec (fun h => ?_) (fun h => ?_) | with_reducible refine Guard_dec (fun h => ?_) (fun h => ?_) | with_reducible refine Guard_ndec (fun h => ?_) (fun h => ?_) | with_reducible refine Guard_not (fun h => ?_) (fun h => ?_) | with_reducible refine IfB_ndec (fun h => ?_) (fun h => ?_) | with_reducible refine IfB_not (fun h => ?_) (fun h => ?_) | with_reducible refine Guard_split (fun h => ?_) (fun h => ?_) | with_reducible refine IfB_split (fun h => ?_) (fun h => ?_))
  refine hK _ _ ⟨?_, rfl⟩
  congr 1
  cases hf : xs.findIdx? (fun x => decide (s = x)) with
  | none =>
    rw [List.findIdx?_eq_none_iff] at hf
    have : ¬ s ∈ xs := fun h => by have := hf s h; simp at this
    simp [this, idxI]
  | some i =>
    rw [List.findIdx?_eq_some_iff_getElem] at hf
    obtain ⟨hi, hp1, _⟩ := hf
    have : s ∈ xs := by simp at hp1; rw [hp1]; exact List.getElem_mem hi
    simp [this, idxI]

theorem sclone_own (xs : List (List UInt8)) (hn : xs.length ≤ 1000000) (H : Heap) : WC Try.prog 49 [(Enc.str).lst xs] H fun r H' => OwnE (Enc.str) H.length H' r xs ∧ Keep none H H' := by
  refine WC_of_K fun K hK => ?_
  cases xs with
  | nil =>
    refine WC_lst0 (pre := []) (post := []) ?_ ?_
    · skip
      refine WC_of_body hT Try.func49 rfl (by simp [Try.f49]) (by simp [Try.f49]) (wx_sound hT _ ?_)
      simp only [Try.f49]
      repeat' (first | simp only [go_sem, Nat.reduceLT, Nat.reduceEqDiff, Nat.reduceAdd, Nat.reduceMul, Nat.reduceSub, Nat.reduceLeDiff, Int.reduceToNat, Int.reduceNeg, Int.reduceLT, Int.reduceLE, Int.reduceEq, reduceCtorEq, Int.natCast_zero, Int.natCast_one, Int.cast_ofNat_Int, Bool.not_not, false_eq_decide, true_eq_decide, hread0, hreadk, read_cons0, read_consk, astore_h0, astore_hk, hget0, hgetk, hset0, hsetk, hlen, hcat, Nat.add_assoc, Nat.add_zero, Nat.zero_add, List.length_append, and_true, true_and, AV.flat, *, -hK] | with_reducible refine IfB_dec (fun h => ?_) (fun h => ?_) | with_reducible refine Guard_dec (fun h => ?_) (fun h => ?_) | with_reducible refine Guard_ndec (fun h => ?_) (fun h => ?_) | with_reducible refine Guard_not (fun h => ?_) (fun h => ?_) | with_reducible refine IfB_ndec (fun h => ?_) (fun h => ?_) | with_reducible refine IfB_not (fun h => ?_) (fun h => ?_) | with_reducible refine Guard_split (fun h => ?_) (fun h => ?_) | with_reducible refine IfB_split (fun h => ?_) (fun h => ?_))
      exact hK _ _ ⟨OwnE.nils _ _ _, Keep.refl _ _⟩
    · skip
      refine WC_of_body hT Try.func49 rfl (by simp [Try.f49]) (by simp [Try.f49]) (wx_sound hT _ ?_)
      simp only [Try.f49]
      simp only [go_sem, Nat.reduceLT, Nat.reduceEqDiff, Nat.reduceAdd, Nat.reduceMul, Nat.reduceSub, Nat.reduceLeDiff, Int.reduceToNat, Int.reduceNeg, Int.reduceLT, Int.reduceLE, Int.reduceEq, reduceCtorEq]
      refine append_enc (E := Enc.str) (xs := []) (ys := []) (m := H.length) (.inr ⟨H.length, 0, .full, [], rfl, Nat.le_refl _, get_last _ _, rfl, rfl⟩) se22 az9 td9 ?_ (by decide) (by simp) (by simp) ?_
      · simp only [asrc, tk22]; rfl
      · intro v' H1 h1 h2 h3
        simp only [go_sem, Nat.reduceLT, Nat.reduceEqDiff, Nat.reduceAdd, Nat.reduceMul, Nat.reduceSub, Nat.reduceLeDiff, Int.reduceToNat, Int.reduceNeg, Int.reduceLT, Int.reduceLE, Int.reduceEq, reduceCtorEq]
        exact hK _ _ ⟨h1, Keep.new (Keep.snoc none H _) h2 (Nat.le_refl _)⟩
  | cons x xs =>
    have hnil : AV.sliceNil ((Enc.str).lst (x :: xs)) = some false := rfl
    have hbin : abin T .eql 22 ((Enc.str).lst (x :: xs)) .nils = some (.bool false) := by simp only [abin, tk22, Enc.lst, AV.sliceNil]; rw [if_pos (by simp)]; rfl
    refine WC_of_body hT Try.func49 rfl (by simp [Try.f49]) (by simp [Try.f49]) (wx_sound hT _ ?_)
    simp only [Try.f49]
    simp only [wx_skip, wx_region, wx_draw, wx_seq, wx_cond, wx_block, wx_exit, wx_ret, wx_loop, WDr_nil, WDr_cons, WDo_none, WDo_some, drK_eq, drU_eq, efK_eq, keepAll_nil, keepAll_true, keepAll_false, RC.ok_pure, RC.ok_load, RC.ok_slice, RC.ok_bytes, RC.ok_blk, mkRC, XThen_normal, XThen_exit, XThen_ret, XBlock_normal, XBlock_ret, XBlock_eq, WOps_nil, WOps_cons, WOp, WCall, wantd, dstOk, apure, aun, anilCheck, aextract, afieldAddr, afieldOff, afield, apart, aindexAddr_sl, aindex, aconv, amakeFunc, alen_str, alen_sl, alen_nils, alen_emp, alen_nul, alen_lst, alen_enc, one_enc, solid_enc, cells_enc, one_nul, solid_nul, cells_nul, one_lst, solid_lst, cells_lst, one_cptr, solid_cptr, cells_cptr, amin, amax, aint, astr, aeq, aeqIn, aeqFs, aeqIn, aeqFs, tk, asize, asliceElem, azero, aalloc, aload, read_last_cons, abytes, abytesStr_sl, Fr.ev, cav, cav1, Fr.get_put, Fr.put_none, Fr.get_init, ares, resOf, atH_eq, opH_eq, undefK_eq, snocK_eq, callK_eq, opsK_eq, codeK_eq, bodyK_ret, bodyK_normal, On_some, On1_some, OnB_some, OnH_some, Guard_true, Guard_false, IfB_true, IfB_false, OnFn_fn, St.own, St.alive, TK.isAgg, one_int, solid_int, cells_int, one_bool, solid_bool, cells_bool, one_str, solid_str, cells_str, one_nilp, solid_nilp, cells_nilp, one_ptr, solid_ptr, cells_ptr, one_nils, solid_nils, cells_nils, one_emp, solid_emp, cells_emp, one_sl, solid_sl, cells_sl, one_fn, solid_fn, cells_fn, one_nilf, solid_nilf, cells_nilf, solid_agg, cells_agg, sliceNil_nils, sliceNil_sl, sliceNil_emp, ptrNil_nilp, ptrNil_ptr, wr, apartsFill, abuild, aplaces, reps, Nat.reduceLT, Nat.reduceEqDiff, Nat.reduceAdd, Nat.reduceMul, Nat.reduceSub, Nat.reduceLeDiff, Int.reduceToNat, Int.reduceNeg, Int.reduceLT, Int.reduceLE, Int.reduceEq, if_true, if_false, true_and, and_true, and_self, reduceCtorEq, decide_true, decide_false, Bool.and_true, Bool.true_and, Bool.and_false, Bool.false_and, Bool.not_true, Bool.not_false, Bool.false_eq_true, beq_self_eq_true, cond_true, cond_false, Option.map_some, Option.map_none, Option.bind_some, Option.bind_none, List.map_cons, List.map_nil, List.all_cons, List.all_nil, List.set_cons_zero, List.set_cons_succ, List.length_cons, List.length_nil, List.getElem?_cons_zero, List.getElem?_cons_succ, List.getD_cons_zero, List.getD_cons_succ, List.drop_zero, List.drop_succ_cons, List.take_succ_cons, List.take_zero, List.replicate_succ, List.replicate_zero, List.flatten_cons, List.flatten_nil, List.append_nil, List.nil_append, List.cons_append, Nat.le_refl, ne_eq, not_true_eq_false, not_false_eq_true, td9, td22, hbin]
    refine append_enc (E := Enc.str) (xs := []) (ys := x :: xs) (m := H.length) (.inr ⟨H.length, 0, .full, [], rfl, Nat.le_refl _, get_last _ _, rfl, rfl⟩) se22 az9 td9 (src_enc tk22) (by decide) ?_ (by simp) ?_
    · show ([].length + (x :: xs).length) * 17 ≤ _; simp only [List.length_nil, Nat.zero_add]; omega
    · intro v' H1 h1 h2 h3
      simp only [go_sem, Nat.reduceLT, Nat.reduceEqDiff, Nat.reduceAdd, Nat.reduceMul, Nat.reduceSub, Nat.reduceLeDiff, Int.reduceToNat, Int.reduceNeg, Int.reduceLT, Int.reduceLE, Int.reduceEq, reduceCtorEq]
      exact hK _ _ ⟨h1, Keep.new (Keep.snoc none H _) h2 (Nat.le_refl _)⟩
theorem sdel_own (m : Nat) (v : AV) (xs : List (List UInt8)) (i : Nat) (hi : i < xs.length) (hn : xs.length ≤ 1000000) (H : Heap) (hv : OwnE (Enc.str) m H v xs) :
    WC Try.prog 48 [v, .int .i64 i, .int .i64 ((i + 1 : Nat) : Int)] H fun r H' => OwnE (Enc.str) m H' r (xs.eraseIdx i) ∧ Keep v.blk H H' ∧ r.blk = v.blk := by
  refine WC_of_K fun K hK => ?_
  refine WC_of_body hT Try.func48 rfl (by simp [Try.f48]) (by simp [Try.f48]) (wx_sound hT _ ?_)
  simp only [Try.f48]
  have e0 := hv.alen (by decide) tk22
  have e1 : ∃ w, aslice T H 22 v (some (.int .i64 i)) (some (.int .i64 ((i + 1 : Nat) : Int))) (some (.int .i64 xs.length)) = some w := by
    obtain ⟨w, h1, _⟩ := (hv.vs (by decide)).slice3 se22 (lo := some (.int .i64 i)) (ku := .i64) (km := .i64) (l := i) (u := i + 1) (m := xs.length) (zu := ((i + 1 : Nat) : Int)) (zm := xs.length) rfl rfl (abound_nat i rfl) (by omega) (by omega) (Nat.le_refl _)
    exact ⟨w, h1⟩
  obtain ⟨w, e1⟩ := e1
  have e2 : ((i : Int) = ((i + 1 : Nat) : Int)) = False := by simp; omega
  have hbn : v.blk ≠ none := by
    obtain ⟨b, o, _, _, hb⟩ := hv.at_ (by decide) se22 hi (k := .i64) rfl
    rw [hb]; simp
  repeat' (first | simp only [go_sem, Nat.reduceLT, Nat.reduceEqDiff, Nat.reduceAdd, Nat.reduceMul, Nat.reduceSub, Nat.reduceLeDiff, Int.reduceToNat, Int.reduceNeg, Int.reduceLT, Int.reduceLE, Int.reduceEq, reduceCtorEq, Int.natCast_zero, Int.natCast_one, Int.cast_ofNat_Int, Bool.not_not, false_eq_decide, true_eq_decide, hread0, hreadk, read_cons0, read_consk, astore_h0, astore_hk, hget0, hgetk, hset0, hsetk, hlen, hcat, Nat.add_assoc, Nat.add_zero, Nat.zero_add, List.length_append, and_true, true_and, AV.flat, *, -hK] | with_reducible refine IfB_dec (fun h => ?_) (fun h => ?_) | with_reducible refine Guard_dec (fun h => ?_) (fun h => ?_) | with_reducible refine Guard_ndec (fun h => ?_) (fun h => ?_) | with_reducible refine Guard_not (fun h => ?_) (fun h => ?_) | with_reducible refine IfB_ndec (fun h => ?_) (fun h => ?_) | with_reducible refine IfB_not (fun h => ?_) (fun h => ?_) | with_reducible refine Guard_split (fun h => ?_) (fun h => ?_) | with_reducible refine IfB_split (fun h => ?_) (fun h => ?_))
  refine WX_rows hT hmix [(0, none), (1, none), (2, none), (3, none), (4, none), (5, none), (6, some [true, true, true, true, true, true]), (7, none)] (by kernel_rfl) ?_
  obtain ⟨v1, v2, s1, s2, hap⟩ := erase_of2 (OwnE.of hv) se22 az9 td9 tk22 (by decide) (i := i) hi (k1 := .i64) (k2 := .i64) (z1 := i) (z2 := ((i + 1 : Nat) : Int)) rfl rfl
  repeat' (first | simp only [go_sem, Nat.reduceLT, Nat.reduceEqDiff, Nat.reduceAdd, Nat.reduceMul, Nat.reduceSub, Nat.reduceLeDiff, Int.reduceToNat, Int.reduceNeg, Int.reduceLT, Int.reduceLE, Int.reduceEq, reduceCtorEq, Int.natCast_zero, Int.natCast_one, Int.cast_ofNat_Int, Bool.not_not, false_eq_decide, true_eq_decide, hread0, hreadk, read_cons0, read_consk, astore_h0, astore_hk, hget0, hgetk, hset0, hsetk, hlen, hcat, Nat.add_assoc, Nat.add_zero, Nat.zero_add, List.length_append, and_true, true_and, AV.flat, *, -hK] | with_reducible refine IfB_dec (fun h => ?_) (fun h => ?_) | with_reducible refine Guard_dec (fun h => ?_) (fun h => ?_) | with_reducible refine Guard_ndec (fun h => ?_) (fun h => ?_) | with_reducible refine Guard_not (fun h => ?_) (fun h => ?_) | with_reducible refine IfB_ndec (fun h => ?_) (fun h => ?_) | with_reducible refine IfB_not (fun h => ?_) (fun h => ?_) | with_reducible refine Guard_split (fun h => ?_) (fun h => ?_) | with_reducible refine IfB_split (fun h => ?_) (fun h => ?_))
  refine hap _ ?_
  intro v' H3 g3 k3 hb3 hr3
  have g3' := OwnE.to g3
  have hlen : (xs.eraseIdx i).length < xs.length := by rw [List.length_eraseIdx]; split <;> omega
  have e3 := g3'.alen (by decide) tk22
  obtain ⟨v4, H4, c1, c2, c3, c4⟩ := g3'.clearRoom (by rw [hb3]; exact hbn) (by decide) se22 hr3 hlen (k := .i64) (k' := .i64) rfl rfl az9 rfl
  repeat' (first | simp only [go_sem, Nat.reduceLT, Nat.reduceEqDiff, Nat.reduceAdd, Nat.reduceMul, Nat.reduceSub, Nat.reduceLeDiff, Int.reduceToNat, Int.reduceNeg, Int.reduceLT, Int.reduceLE, Int.reduceEq, reduceCtorEq, Int.natCast_zero, Int.natCast_one, Int.cast_ofNat_Int, Bool.not_not, false_eq_decide, true_eq_decide, hread0, hreadk, read_cons0, read_consk, astore_h0, astore_hk, hget0, hgetk, hset0, hsetk, hlen, hcat, Nat.add_assoc, Nat.add_zero, Nat.zero_add, List.length_append, and_true, true_and, AV.flat, *, -hK, -hb3] | with_reducible refine IfB_dec (fun h => ?_) (fun h => ?_) | with_reducible refine Guard_dec (fun h => ?_) (fun h => ?_) | with_reducible refine Guard_ndec (fun h => ?_) (fun h => ?_) | with_reducible refine Guard_not (fun h => ?_) (fun h => ?_) | with_reducible refine IfB_ndec (fun h => ?_) (fun h => ?_) | with_reducible refine IfB_not (fun h => ?_) (fun h => ?_) | with_reducible refine Guard_split (fun h => ?_) (fun h => ?_) | with_reducible refine IfB_split (fun h => ?_) (fun h => ?_))
  refine hK _ _ ⟨c4, ?_, hb3⟩
  rw [hb3] at c3; exact k3.trans c3
theorem own_same {m : Nat} {H G : Heap} {sz : Nat} {v : AV} {cs : List AV} (ho : Own m H v sz cs) (hs : ∀ b, v.blk = some b → G[b]? = H[b]?) : Own m G v sz cs := by
  rcases ho with ho | ⟨b, n, st1, rest1, rfl, h1, h2, h4⟩
  · exact .inl ho
  · exact .inr ⟨b, n, st1, rest1, rfl, h1, by rw [hs b rfl]; exact h2, h4⟩
/-- An order in a cell of its own, its rows in memory of their own. -/
structure OO (zb : Option Nat) (m : Nat) (H : Heap) (q : Nat) (o : Ord) (vt vk : AV) : Prop where
  bq : H[q]? = some (⟨[vt, vk], 0, .full⟩ : Blk)
  ot : OwnE Enc.str m H vt o.t
  ok : OwnE Enc.str m H vk o.k
  tq : vt.blk ≠ some q
  kq : vk.blk ≠ some q
  dis : ∀ b, vt.blk = some b → vk.blk ≠ some b
  le : m ≤ H.length
  zt : ∀ b, zb = some b → vt.blk ≠ some b ∧ vk.blk ≠ some b ∧ b < H.length ∧ b ≠ q
/-- What lies below, but the cell, stays. -/
structure Lo (zb : Option Nat) (m q : Nat) (H G : Heap) : Prop where
  len : H.length ≤ G.length
  at_ : ∀ b, b < m → b ≠ q → G[b]? = H[b]?
  zat : ∀ b, zb = some b → b < H.length → b ≠ q → G[b]? = H[b]?
theorem Lo.trans {zb : Option Nat} {m q : Nat} {H G I : Heap} (h : Lo zb m q H G) (k : Lo zb m q G I) : Lo zb m q H I := ⟨Nat.le_trans h.len k.len, fun b hb hq => (k.at_ b hb hq).trans (h.at_ b hb hq), fun b hz hb hq => (k.zat b hz (Nat.lt_of_lt_of_le hb h.len) hq).trans (h.zat b hz hb hq)⟩
theorem Lo.of {zb : Option Nat} {m q : Nat} {H G : Heap} (k : Keep none H G) (hm : m ≤ H.length) : Lo zb m q H G := ⟨k.len, fun b hb _ => k.at_ b (by omega) (by simp), fun b _ hb _ => k.at_ b hb (by simp)⟩
section
variable {zb : Option Nat} {m q : Nat} {H G : Heap} {o : Ord} {vt vk : AV}
theorem OO.keep (x : OO zb m H q o vt vk) (k : Keep none H G) : OO zb m G q o vt vk :=
  ⟨k.get x.bq (by simp), x.ot.keep0 k, x.ok.keep0 k, x.tq, x.kq, x.dis, Nat.le_trans x.le k.len, fun b hb => ⟨(x.zt b hb).1, (x.zt b hb).2.1, Nat.lt_of_lt_of_le (x.zt b hb).2.2.1 k.len, (x.zt b hb).2.2.2⟩⟩
theorem OO.lt (x : OO zb m H q o vt vk) : q < H.length := (List.getElem?_eq_some_iff.1 x.bq).1
theorem OO.setT (x : OO zb m H q o vt vk) {H1 : Heap} {r : AV} {l : List (List UInt8)} (k : Keep vt.blk H H1) (hr : OwnE Enc.str m H1 r l) (hn : ∀ b, r.blk = some b → vt.blk = some b ∨ H.length ≤ b) : OO zb m (List.set H1 q ⟨[r, vk], 0, .full⟩) q ⟨l, o.k⟩ r vk ∧ Lo zb m q H (List.set H1 q ⟨[r, vk], 0, .full⟩) := by
  have hq := x.lt
  have hl := k.len
  have hrq : r.blk ≠ some q := fun e => by rcases hn q e with h | h; exact x.tq h; omega
  refine ⟨⟨List.getElem?_set_self (by omega), own_same hr fun b hb => List.getElem?_set_ne fun e => hrq (by rw [hb, e]), own_same x.ok fun b hb => ?_, hrq, x.kq, fun b hb hkb => ?_, by rw [List.length_set]; exact Nat.le_trans x.le hl, fun b hb => ⟨fun e => ?_, (x.zt b hb).2.1, by rw [List.length_set]; exact Nat.lt_of_lt_of_le (x.zt b hb).2.2.1 hl, (x.zt b hb).2.2.2⟩⟩, ⟨by rw [List.length_set]; exact hl, fun b hb hbq => ?_, fun b hb hbl hbq => by rw [List.getElem?_set_ne (fun e => hbq e.symm), k.at_ b hbl (x.zt b hb).1]⟩⟩
  · rw [List.getElem?_set_ne (fun e => x.kq (by rw [hb, e])), k.at_ b (x.ok.lt hb) (fun e => x.dis b e hb)]
  · rcases hn b hb with h | h
    · exact x.dis b h hkb
    · have := x.ok.lt hkb; omega
  · rcases hn b e with h | h
    · exact (x.zt b hb).1 h
    · have := (x.zt b hb).2.2.1; omega
  · rw [List.getElem?_set_ne (fun e => hbq e.symm), k.at_ b (by have := x.le; omega) (fun e => by have := x.ot.ge e; omega)]
theorem OO.setK (x : OO zb m H q o vt vk) {H1 : Heap} {r : AV} {l : List (List UInt8)} (k : Keep vk.blk H H1) (hr : OwnE Enc.str m H1 r l) (hn : ∀ b, r.blk = some b → vk.blk = some b ∨ H.length ≤ b) : OO zb m (List.set H1 q ⟨[vt, r], 0, .full⟩) q ⟨o.t, l⟩ vt r ∧ Lo zb m q H (List.set H1 q ⟨[vt, r], 0, .full⟩) := by
  have hq := x.lt
  have hl := k.len
  have hrq : r.blk ≠ some q := fun e => by rcases hn q e with h | h; exact x.kq h; omega
  refine ⟨⟨List.getElem?_set_self (by omega), own_same x.ot fun b hb => ?_, own_same hr fun b hb => List.getElem?_set_ne fun e => hrq (by rw [hb, e]), x.tq, hrq, fun b hb hkb => ?_, by rw [List.length_set]; exact Nat.le_trans x.le hl, fun b hb => ⟨(x.zt b hb).1, fun e => ?_, by rw [List.length_set]; exact Nat.lt_of_lt_of_le (x.zt b hb).2.2.1 hl, (x.zt b hb).2.2.2⟩⟩, ⟨by rw [List.length_set]; exact hl, fun b hb hbq => ?_, fun b hb hbl hbq => by rw [List.getElem?_set_ne (fun e => hbq e.symm), k.at_ b hbl (x.zt b hb).2.1]⟩⟩
  · rw [List.getElem?_set_ne (fun e => x.tq (by rw [hb, e])), k.at_ b (x.ot.lt hb) (fun e => x.dis b hb e)]
  · rcases hn b hkb with h | h
    · exact x.dis b hb h
    · have := x.ot.lt hb; omega
  · rcases hn b e with h | h
    · exact (x.zt b hb).2.1 h
    · have := (x.zt b hb).2.2.1; omega
  · rw [List.getElem?_set_ne (fun e => hbq e.symm), k.at_ b (by have := x.le; omega) (fun e => by have := x.ok.ge e; omega)]
end
theorem erase_at {a : List UInt8} : ∀ {l : List (List UInt8)} {z : Nat} (hz : z < l.length), l[z] = a → a ∉ l.take z → l.erase a = l.eraseIdx z
  | [], z, hz, _, _ => by simp at hz
  | b :: l, 0, _, h, _ => by
    rw [List.getElem_cons_zero] at h
    subst h
    simp
  | b :: l, z + 1, hz, h, hn => by
    rw [List.getElem_cons_succ] at h
    rw [List.take_succ_cons] at hn
    have hb : b ≠ a := fun e => hn (by rw [e]; exact .head _)
    rw [List.erase_cons_tail (by simpa using hb), List.eraseIdx_cons_succ, erase_at (by simpa using hz) h (fun hm => hn (.tail _ hm))]
def takeO (o : Ord) (s : List UInt8) : Ord := if s ∈ o.t then ⟨o.t.erase s, o.k⟩ else ⟨o.t, o.k.erase s⟩
theorem take_own {zb : Option Nat} {m q : Nat} {H : Heap} {o : Ord} {vt vk : AV} (x : OO zb m H q o vt vk) (hf : o.fit) (key : List UInt8) :
    WC Try.prog 34 [.ptr q 0, .str key] H fun r H' => r = .tup [] ∧ (∃ vt' vk', OO zb m H' q (takeO o key) vt' vk') ∧ Lo zb m q H H' := by
  refine WC_of_K fun K hK => ?_
  obtain ⟨h1, h2⟩ := hf
  refine WC_of_body hT Try.func34 rfl (by simp [Try.f34]) (by simp [Try.f34]) (wx_sound hT _ ?_)
  simp only [Try.f34]
  repeat' (first | simp only [go_sem, Nat.reduceLT, Nat.reduceEqDiff, Nat.reduceAdd, Nat.reduceMul, Nat.reduceSub, Nat.reduceLeDiff, Int.reduceToNat, Int.reduceNeg, Int.reduceLT, Int.reduceLE, Int.reduceEq, reduceCtorEq, Int.natCast_zero, Int.natCast_one, Int.cast_ofNat_Int, Bool.not_not, false_eq_decide, true_eq_decide, hread0, hreadk, read_cons0, read_consk, astore_h0, astore_hk, hget0, hgetk, hset0, hsetk, hlen, hcat, Nat.add_assoc, Nat.add_zero, Nat.zero_add, List.length_append, and_true, true_and, AV.flat, *, -hK, -x] | with_reducible refine IfB_dec (fun h => ?_) (fun h => ?_) | with_reducible refine Guard_dec (fun h => ?_) (fun h => ?_) | with_reducible refine Guard_ndec (fun h => ?_) (fun h => ?_) | with_reducible refine Guard_not (fun h => ?_) (fun h => ?_) | with_reducible refine IfB_ndec (fun h => ?_) (fun h => ?_) | with_reducible refine IfB_not (fun h => ?_) (fun h => ?_) | with_reducible refine Guard_split (fun h => ?_) (fun h => ?_) | with_reducible refine IfB_split (fun h => ?_) (fun h => ?_))
  refine WX_rows hT hmix [(0, none), (1, none), (2, none), (3, none), (4, none), (5, none), (6, none), (7, none), (8, none)] (by kernel_rfl) ?_
  repeat' (first | simp only [go_sem, Nat.reduceLT, Nat.reduceEqDiff, Nat.reduceAdd, Nat.reduceMul, Nat.reduceSub, Nat.reduceLeDiff, Int.reduceToNat, Int.reduceNeg, Int.reduceLT, Int.reduceLE, Int.reduceEq, reduceCtorEq, Int.natCast_zero, Int.natCast_one, Int.cast_ofNat_Int, Bool.not_not, false_eq_decide, true_eq_decide, hread0, hreadk, read_cons0, read_consk, astore_h0, astore_hk, hget0, hgetk, hset0, hsetk, hlen, hcat, Nat.add_assoc, Nat.add_zero, Nat.zero_add, List.length_append, and_true, true_and, AV.flat, *, -hK, -x] | with_reducible refine IfB_dec (fun h => ?_) (fun h => ?_) | with_reducible refine Guard_dec (fun h => ?_) (fun h => ?_) | with_reducible refine Guard_ndec (fun h => ?_) (fun h => ?_) | with_reducible refine Guard_not (fun h => ?_) (fun h => ?_) | with_reducible refine IfB_ndec (fun h => ?_) (fun h => ?_) | with_reducible refine IfB_not (fun h => ?_) (fun h => ?_) | with_reducible refine Guard_split (fun h => ?_) (fun h => ?_) | with_reducible refine IfB_split (fun h => ?_) (fun h => ?_))
  have x2 := x.keep (Keep.app none H [(⟨[.ptr q 0, .ptr q 1], 1, .full⟩ : Blk)])
  have kpb : Keep none H (H ++ [(⟨[.ptr q 0, .ptr q 1], 1, .full⟩ : Blk)]) := Keep.app _ _ _
  generalize hG : (H ++ [(⟨[.ptr q 0, .ptr q 1], 1, .full⟩ : Blk)] : Heap) = G
  have gpb : G[H.length]? = some (⟨[.ptr q 0, .ptr q 1], 1, .full⟩ : Blk) := by rw [← hG]; simp
  rw [hG] at x2 kpb
  have hLo : Lo zb m q H G := Lo.of kpb x.le
  clear hG kpb
  refine WX_loopS [1, 14, 15] (fun kn fr' J => ∃ i : Nat, kn = 2 - i ∧ i ≤ 2 ∧ fr'.get 16 = .int .i64 i ∧ J = G ∧ (1 ≤ i → key ∉ o.t) ∧ (2 ≤ i → key ∉ o.k)) 2 ⟨0, rfl, by omega, by simp only [go_sem, Nat.reduceLT, Nat.reduceEqDiff, Nat.reduceAdd, Nat.reduceMul, Nat.reduceSub, Nat.reduceLeDiff, Int.reduceToNat, Int.reduceNeg, Int.reduceLT, Int.reduceLE, Int.reduceEq, reduceCtorEq]; rfl, rfl, fun h => by omega, fun h => by omega⟩ ?_
  rintro kn fr' J A R hA hs hg hR ⟨i, rfl, hi, f16, rfl, hn1, hn2⟩
  have s1 := hg 1 (by decide)
  have s14 := hg 14 (by decide)
  have s15 := hg 15 (by decide)
  simp only [Fr.get_put, Fr.get_init, List.getD_cons_zero, List.getD_cons_succ, Nat.reduceEqDiff, if_true, if_false] at s1 s14 s15
  refine wx_sound hT _ ?_
  have gq := x2.bq
  by_cases hlt : i < 2
  rotate_left
  · have i1 : ¬ (i : Int) < 2 := by omega
    have hto : takeO o key = o := by unfold takeO; rw [if_neg (hn1 (by omega)), List.erase_of_not_mem (hn2 (by omega))]
    repeat' (first | simp only [go_sem, Nat.reduceLT, Nat.reduceEqDiff, Nat.reduceAdd, Nat.reduceMul, Nat.reduceSub, Nat.reduceLeDiff, Int.reduceToNat, Int.reduceNeg, Int.reduceLT, Int.reduceLE, Int.reduceEq, reduceCtorEq, Int.natCast_zero, Int.natCast_one, Int.cast_ofNat_Int, Bool.not_not, false_eq_decide, true_eq_decide, hread0, hreadk, read_cons0, read_consk, astore_h0, astore_hk, hget0, hgetk, hset0, hsetk, hlen, hcat, Nat.add_assoc, Nat.add_zero, Nat.zero_add, List.length_append, and_true, true_and, AV.flat, *, -hK, -x, -x2, -gpb, -gq, -hlt, -hto, -hLo] | with_reducible refine IfB_dec (fun h => ?_) (fun h => ?_) | with_reducible refine Guard_dec (fun h => ?_) (fun h => ?_) | with_reducible refine Guard_ndec (fun h => ?_) (fun h => ?_) | with_reducible refine Guard_not (fun h => ?_) (fun h => ?_) | with_reducible refine IfB_ndec (fun h => ?_) (fun h => ?_) | with_reducible refine IfB_not (fun h => ?_) (fun h => ?_) | with_reducible refine Guard_split (fun h => ?_) (fun h => ?_) | with_reducible refine IfB_split (fun h => ?_) (fun h => ?_))
    exact hK _ _ ⟨rfl, ⟨vt, vk, by rw [hto]; exact x2⟩, hLo⟩
  have i1 : (i : Int) < 2 := by omega
  have hcases : i = 0 ∨ i = 1 := by omega
  rcases hcases with rfl | rfl
  · have hfnd : ∀ z (hz : z < o.t.length), o.t[z] = key → key ∉ o.t.take z → ∀ r H1, OwnE Enc.str m H1 r (o.t.eraseIdx z) → Keep vt.blk J H1 → r.blk = vt.blk → K (.tup []) (List.set H1 q ⟨[r, vk], 0, .full⟩) := fun z hz h1 h2 r H1 hr hk hb => by
      obtain ⟨y1, y2⟩ := x2.setT hk hr (fun b h => .inl (by rw [← hb]; exact h))
      refine hK _ _ ⟨rfl, ⟨r, vk, ?_⟩, hLo.trans y2⟩
      unfold takeO
      rw [if_pos (by rw [← h1]; exact List.getElem_mem hz), erase_at hz h1 h2]
      exact y1
    have back : ∀ fr2, A fr2 → fr2.get 16 = .int .i64 1 → key ∉ o.t → R fr2 J := fun fr2 ha q1 q2 => hR fr2 J ha 1 (by omega) ⟨1, rfl, by omega, q1, rfl, fun _ => q2, fun h => by omega⟩
    clear hR hn1 hn2
    have ot := x2.ot
    have e30 : IntKind.i64.wrap (0 + 1) = 1 := by rw [IntKind.wrap_i64]; decide
    have hvo := ot.one
    have e9 := ot.alen (T := T) (by decide) tk22
    repeat' (first | simp only [go_sem, Nat.reduceLT, Nat.reduceEqDiff, Nat.reduceAdd, Nat.reduceMul, Nat.reduceSub, Nat.reduceLeDiff, Int.reduceToNat, Int.reduceNeg, Int.reduceLT, Int.reduceLE, Int.reduceEq, reduceCtorEq, Int.natCast_zero, Int.natCast_one, Int.cast_ofNat_Int, Bool.not_not, false_eq_decide, true_eq_decide, hread0, hreadk, read_cons0, read_consk, astore_h0, astore_hk, hget0, hgetk, hset0, hsetk, hlen, hcat, Nat.add_assoc, Nat.add_zero, Nat.zero_add, List.length_append, and_true, true_and, AV.flat, gq, get_app gq, read_get gq, read_app gq, gpb, get_app gpb, read_get gpb, read_app gpb, hvo, one_solid hvo, one_cells hvo, *, -hK, -hlt, -back, -hK, -hfnd, -x, -x2, -ot, -hLo] | with_reducible refine IfB_dec (fun h => ?_) (fun h => ?_) | with_reducible refine Guard_dec (fun h => ?_) (fun h => ?_) | with_reducible refine Guard_ndec (fun h => ?_) (fun h => ?_) | with_reducible refine Guard_not (fun h => ?_) (fun h => ?_) | with_reducible refine IfB_ndec (fun h => ?_) (fun h => ?_) | with_reducible refine IfB_not (fun h => ?_) (fun h => ?_) | with_reducible refine Guard_split (fun h => ?_) (fun h => ?_) | with_reducible refine IfB_split (fun h => ?_) (fun h => ?_))
    have hA0 := hA
    have o1 := s1
    have o14 := s14
    have o15 := s15
    refine WX_loopS [1, 14, 15, 16, 5, 22, 23] (fun kn fr' J2 => ∃ z : Nat, kn = (o.t).length - z ∧ z ≤ (o.t).length ∧ fr'.get 24 = .int .i64 z ∧ J2 = J ∧ key ∉ (o.t).take z ∧ A fr') (o.t).length ⟨0, rfl, by omega, by simp only [go_sem, Nat.reduceLT, Nat.reduceEqDiff, Nat.reduceAdd, Nat.reduceMul, Nat.reduceSub, Nat.reduceLeDiff, Int.reduceToNat, Int.reduceNeg, Int.reduceLT, Int.reduceLE, Int.reduceEq, reduceCtorEq]; rfl, rfl, by simp, by (repeat (first | exact hs | refine hA _ _ _ (by decide) ?_))⟩ ?_
    clear hg hs hA s1 s14 s15
    rintro kn fr' J2 A2 R2 hA hs hg hR2 ⟨z, rfl, hz, f24, rfl, hno, hAf⟩
    have s1 := hg 1 (by decide)
    have s14 := hg 14 (by decide)
    have s15 := hg 15 (by decide)
    have s16 := hg 16 (by decide)
    have s5 := hg 5 (by decide)
    have s22 := hg 22 (by decide)
    have s23 := hg 23 (by decide)
    simp only [Fr.get_put, Fr.get_init, List.getD_cons_zero, List.getD_cons_succ, Nat.reduceEqDiff, if_true, if_false] at s1 s14 s15 s16 s5 s22 s23
    rw [o1] at s1
    rw [o14] at s14
    rw [o15] at s15
    rw [f16] at s16
    clear o1 o14 o15 f16
    refine wx_sound hT _ ?_
    by_cases hlz : z < (o.t).length
    rotate_left
    · have i6 : ¬ (z : Int) < (o.t).length := by omega
      rw [List.take_of_length_le (by omega)] at hno
      repeat' (first | simp only [go_sem, Nat.reduceLT, Nat.reduceEqDiff, Nat.reduceAdd, Nat.reduceMul, Nat.reduceSub, Nat.reduceLeDiff, Int.reduceToNat, Int.reduceNeg, Int.reduceLT, Int.reduceLE, Int.reduceEq, reduceCtorEq, Int.natCast_zero, Int.natCast_one, Int.cast_ofNat_Int, Bool.not_not, false_eq_decide, true_eq_decide, hread0, hreadk, read_cons0, read_consk, astore_h0, astore_hk, hget0, hgetk, hset0, hsetk, hlen, hcat, Nat.add_assoc, Nat.add_zero, Nat.zero_add, List.length_append, and_true, true_and, AV.flat, gq, get_app gq, read_get gq, read_app gq, hvo, one_solid hvo, one_cells hvo, *, -hK, -hlt, -back, -hfnd, -x, -x2, -gpb, -ot, -hLo, -hno, -hlz] | with_reducible refine IfB_dec (fun h => ?_) (fun h => ?_) | with_reducible refine Guard_dec (fun h => ?_) (fun h => ?_) | with_reducible refine Guard_ndec (fun h => ?_) (fun h => ?_) | with_reducible refine Guard_not (fun h => ?_) (fun h => ?_) | with_reducible refine IfB_ndec (fun h => ?_) (fun h => ?_) | with_reducible refine IfB_not (fun h => ?_) (fun h => ?_) | with_reducible refine Guard_split (fun h => ?_) (fun h => ?_) | with_reducible refine IfB_split (fun h => ?_) (fun h => ?_))
      exact back _ (by repeat (first | exact hAf | refine hA0 _ _ _ (by decide) ?_)) (by simp only [go_sem, Nat.reduceLT, Nat.reduceEqDiff, Nat.reduceAdd, Nat.reduceMul, Nat.reduceSub, Nat.reduceLeDiff, Int.reduceToNat, Int.reduceNeg, Int.reduceLT, Int.reduceLE, Int.reduceEq, reduceCtorEq]) hno
    have i6 : (z : Int) < (o.t).length := by omega
    have e7 := inc_id hlz (by omega)
    obtain ⟨b0, o0, ai, rd0, -⟩ := ot.at_ (by decide) se22 hlz (k := .i64) (z := z) rfl
    rw [show Enc.str.sz = 1 from rfl, str_cells] at rd0
    have hst : key ≠ (o.t)[z] → key ∉ (o.t).take (z + 1) := fun h hm => by
      rw [List.take_succ_eq_append_getElem hlz] at hm
      rcases List.mem_append.1 hm with hm | hm
      · exact hno hm
      · exact h (List.mem_singleton.1 hm)
    have back2 : key ∉ (o.t).take (z + 1) → ∀ fr2, A2 fr2 → fr2.get 24 = .int .i64 ((z + 1 : Nat) : Int) → A fr2 → R2 fr2 J2 := fun h fr2 ha j1 j2 => hR2 fr2 J2 ha ((o.t).length - (z + 1)) (by omega) ⟨z + 1, rfl, by omega, j1, rfl, h, j2⟩
    have hfz := fun h => hfnd z hlz h hno
    have dl := sdel_own m vt (o.t) z hlz (by omega) J2 ot
    clear hR2
    generalize hkz : (o.t)[z] = kz at *
    by_cases hkey : kz = key
    · have hfz := hfz hkey
      clear back back2 hst hfnd
      repeat' (first | simp only [go_sem, Nat.reduceLT, Nat.reduceEqDiff, Nat.reduceAdd, Nat.reduceMul, Nat.reduceSub, Nat.reduceLeDiff, Int.reduceToNat, Int.reduceNeg, Int.reduceLT, Int.reduceLE, Int.reduceEq, reduceCtorEq, Int.natCast_zero, Int.natCast_one, Int.cast_ofNat_Int, Bool.not_not, false_eq_decide, true_eq_decide, hread0, hreadk, read_cons0, read_consk, astore_h0, astore_hk, hget0, hgetk, hset0, hsetk, hlen, hcat, Nat.add_assoc, Nat.add_zero, Nat.zero_add, List.length_append, and_true, true_and, AV.flat, gq, get_app gq, read_get gq, read_app gq, hvo, one_solid hvo, one_cells hvo, *, -hK, -hlt, -x, -x2, -gpb, -ot, -hLo, -hno, -hlz, -hfz, -dl, -hkz] | with_reducible refine IfB_dec (fun h => ?_) (fun h => ?_) | with_reducible refine Guard_dec (fun h => ?_) (fun h => ?_) | with_reducible refine Guard_ndec (fun h => ?_) (fun h => ?_) | with_reducible refine Guard_not (fun h => ?_) (fun h => ?_) | with_reducible refine IfB_ndec (fun h => ?_) (fun h => ?_) | with_reducible refine IfB_not (fun h => ?_) (fun h => ?_) | with_reducible refine Guard_split (fun h => ?_) (fun h => ?_) | with_reducible refine IfB_split (fun h => ?_) (fun h => ?_))
      refine dl.mono ?_
      rintro r H1 ⟨or_, kr, hrb⟩
      have hro := or_.one
      have gq1 := kr.get gq (fun e => x2.tq e)
      repeat' (first | simp only [go_sem, Nat.reduceLT, Nat.reduceEqDiff, Nat.reduceAdd, Nat.reduceMul, Nat.reduceSub, Nat.reduceLeDiff, Int.reduceToNat, Int.reduceNeg, Int.reduceLT, Int.reduceLE, Int.reduceEq, reduceCtorEq, Int.natCast_zero, Int.natCast_one, Int.cast_ofNat_Int, Bool.not_not, false_eq_decide, true_eq_decide, hread0, hreadk, read_cons0, read_consk, astore_h0, astore_hk, hget0, hgetk, hset0, hsetk, hlen, hcat, Nat.add_assoc, Nat.add_zero, Nat.zero_add, List.length_append, and_true, true_and, AV.flat, gq1, get_app gq1, read_get gq1, read_app gq1, gq1, get_app gq1, read_get gq1, read_app gq1, astore_get gq1, astore_app gq1, get_set gq1, get_set_app gq1, read_set gq1, read_set_app gq1, astore_set gq1, astore_set_app gq1, List.set_set, hget0s, hgetks, hread0s, hreadks, List.length_set, hro, one_solid hro, one_cells hro, *, -hK, -hlt, -x, -x2, -gpb, -gq, -hno, -hlz, -hfz, -dl, -hkz, -or_, -kr, -hrb] | with_reducible refine IfB_dec (fun h => ?_) (fun h => ?_) | with_reducible refine Guard_dec (fun h => ?_) (fun h => ?_) | with_reducible refine Guard_ndec (fun h => ?_) (fun h => ?_) | with_reducible refine Guard_not (fun h => ?_) (fun h => ?_) | with_reducible refine IfB_ndec (fun h => ?_) (fun h => ?_) | with_reducible refine IfB_not (fun h => ?_) (fun h => ?_) | with_reducible refine Guard_split (fun h => ?_) (fun h => ?_) | with_reducible refine IfB_split (fun h => ?_) (fun h => ?_))
      exact hfz r H1 or_ kr hrb
    · have back2 := back2 (hst (fun e => hkey e.symm))
      clear hfz hst back hfnd dl
      repeat' (first | simp only [go_sem, Nat.reduceLT, Nat.reduceEqDiff, Nat.reduceAdd, Nat.reduceMul, Nat.reduceSub, Nat.reduceLeDiff, Int.reduceToNat, Int.reduceNeg, Int.reduceLT, Int.reduceLE, Int.reduceEq, reduceCtorEq, Int.natCast_zero, Int.natCast_one, Int.cast_ofNat_Int, Bool.not_not, false_eq_decide, true_eq_decide, hread0, hreadk, read_cons0, read_consk, astore_h0, astore_hk, hget0, hgetk, hset0, hsetk, hlen, hcat, Nat.add_assoc, Nat.add_zero, Nat.zero_add, List.length_append, and_true, true_and, AV.flat, gq, get_app gq, read_get gq, read_app gq, hvo, one_solid hvo, one_cells hvo, *, -hK, -hlt, -x, -x2, -gpb, -ot, -hLo, -hno, -hlz, -back2, -hkz] | with_reducible refine IfB_dec (fun h => ?_) (fun h => ?_) | with_reducible refine Guard_dec (fun h => ?_) (fun h => ?_) | with_reducible refine Guard_ndec (fun h => ?_) (fun h => ?_) | with_reducible refine Guard_not (fun h => ?_) (fun h => ?_) | with_reducible refine IfB_ndec (fun h => ?_) (fun h => ?_) | with_reducible refine IfB_not (fun h => ?_) (fun h => ?_) | with_reducible refine Guard_split (fun h => ?_) (fun h => ?_) | with_reducible refine IfB_split (fun h => ?_) (fun h => ?_))
      exact back2 _ (by (repeat (first | exact hs | refine hA _ _ _ (by decide) ?_))) (by simp only [go_sem, Nat.reduceLT, Nat.reduceEqDiff, Nat.reduceAdd, Nat.reduceMul, Nat.reduceSub, Nat.reduceLeDiff, Int.reduceToNat, Int.reduceNeg, Int.reduceLT, Int.reduceLE, Int.reduceEq, reduceCtorEq]) (by repeat (first | exact hAf | refine hA0 _ _ _ (by decide) ?_))
  · have hn1 := hn1 (by omega)
    have hfnd : ∀ z (hz : z < o.k.length), o.k[z] = key → key ∉ o.k.take z → ∀ r H1, OwnE Enc.str m H1 r (o.k.eraseIdx z) → Keep vk.blk J H1 → r.blk = vk.blk → K (.tup []) (List.set H1 q ⟨[vt, r], 0, .full⟩) := fun z hz h1 h2 r H1 hr hk hb => by
      obtain ⟨y1, y2⟩ := x2.setK hk hr (fun b h => .inl (by rw [← hb]; exact h))
      refine hK _ _ ⟨rfl, ⟨vt, r, ?_⟩, hLo.trans y2⟩
      unfold takeO
      rw [if_neg hn1, erase_at hz h1 h2]
      exact y1
    have back : ∀ fr2, A fr2 → fr2.get 16 = .int .i64 2 → key ∉ o.k → R fr2 J := fun fr2 ha q1 q2 => hR fr2 J ha 0 (by omega) ⟨2, rfl, by omega, q1, rfl, fun _ => hn1, fun _ => q2⟩
    clear hR hn2
    have ot := x2.ok
    have e30 : IntKind.i64.wrap (1 + 1) = 2 := by rw [IntKind.wrap_i64]; decide
    have hvo := ot.one
    have e9 := ot.alen (T := T) (by decide) tk22
    repeat' (first | simp only [go_sem, Nat.reduceLT, Nat.reduceEqDiff, Nat.reduceAdd, Nat.reduceMul, Nat.reduceSub, Nat.reduceLeDiff, Int.reduceToNat, Int.reduceNeg, Int.reduceLT, Int.reduceLE, Int.reduceEq, reduceCtorEq, Int.natCast_zero, Int.natCast_one, Int.cast_ofNat_Int, Bool.not_not, false_eq_decide, true_eq_decide, hread0, hreadk, read_cons0, read_consk, astore_h0, astore_hk, hget0, hgetk, hset0, hsetk, hlen, hcat, Nat.add_assoc, Nat.add_zero, Nat.zero_add, List.length_append, and_true, true_and, AV.flat, gq, get_app gq, read_get gq, read_app gq, gpb, get_app gpb, read_get gpb, read_app gpb, hvo, one_solid hvo, one_cells hvo, *, -hK, -hlt, -back, -hK, -hfnd, -x, -x2, -ot, -hLo] | with_reducible refine IfB_dec (fun h => ?_) (fun h => ?_) | with_reducible refine Guard_dec (fun h => ?_) (fun h => ?_) | with_reducible refine Guard_ndec (fun h => ?_) (fun h => ?_) | with_reducible refine Guard_not (fun h => ?_) (fun h => ?_) | with_reducible refine IfB_ndec (fun h => ?_) (fun h => ?_) | with_reducible refine IfB_not (fun h => ?_) (fun h => ?_) | with_reducible refine Guard_split (fun h => ?_) (fun h => ?_) | with_reducible refine IfB_split (fun h => ?_) (fun h => ?_))
    have hA0 := hA
    have o1 := s1
    have o14 := s14
    have o15 := s15
    refine WX_loopS [1, 14, 15, 16, 5, 22, 23] (fun kn fr' J2 => ∃ z : Nat, kn = (o.k).length - z ∧ z ≤ (o.k).length ∧ fr'.get 24 = .int .i64 z ∧ J2 = J ∧ key ∉ (o.k).take z ∧ A fr') (o.k).length ⟨0, rfl, by omega, by simp only [go_sem, Nat.reduceLT, Nat.reduceEqDiff, Nat.reduceAdd, Nat.reduceMul, Nat.reduceSub, Nat.reduceLeDiff, Int.reduceToNat, Int.reduceNeg, Int.reduceLT, Int.reduceLE, Int.reduceEq, reduceCtorEq]; rfl, rfl, by simp, by (repeat (first | exact hs | refine hA _ _ _ (by decide) ?_))⟩ ?_
    clear hg hs hA s1 s14 s15
    rintro kn fr' J2 A2 R2 hA hs hg hR2 ⟨z, rfl, hz, f24, rfl, hno, hAf⟩
    have s1 := hg 1 (by decide)
    have s14 := hg 14 (by decide)
    have s15 := hg 15 (by decide)
    have s16 := hg 16 (by decide)
    have s5 := hg 5 (by decide)
    have s22 := hg 22 (by decide)
    have s23 := hg 23 (by decide)
    simp only [Fr.get_put, Fr.get_init, List.getD_cons_zero, List.getD_cons_succ, Nat.reduceEqDiff, if_true, if_false] at s1 s14 s15 s16 s5 s22 s23
    rw [o1] at s1
    rw [o14] at s14
    rw [o15] at s15
    rw [f16] at s16
    clear o1 o14 o15 f16
    refine wx_sound hT _ ?_
    by_cases hlz : z < (o.k).length
    rotate_left
    · have i6 : ¬ (z : Int) < (o.k).length := by omega
      rw [List.take_of_length_le (by omega)] at hno
      repeat' (first | simp only [go_sem, Nat.reduceLT, Nat.reduceEqDiff, Nat.reduceAdd, Nat.reduceMul, Nat.reduceSub, Nat.reduceLeDiff, Int.reduceToNat, Int.reduceNeg, Int.reduceLT, Int.reduceLE, Int.reduceEq, reduceCtorEq, Int.natCast_zero, Int.natCast_one, Int.cast_ofNat_Int, Bool.not_not, false_eq_decide, true_eq_decide, hread0, hreadk, read_cons0, read_consk, astore_h0, astore_hk, hget0, hgetk, hset0, hsetk, hlen, hcat, Nat.add_assoc, Nat.add_zero, Nat.zero_add, List.length_append, and_true, true_and, AV.flat, gq, get_app gq, read_get gq, read_app gq, hvo, one_solid hvo, one_cells hvo, *, -hK, -hlt, -back, -hfnd, -x, -x2, -gpb, -ot, -hLo, -hno, -hlz] | with_reducible refine IfB_dec (fun h => ?_) (fun h => ?_) | with_reducible refine Guard_dec (fun h => ?_) (fun h => ?_) | with_reducible refine Guard_ndec (fun h => ?_) (fun h => ?_) | with_reducible refine Guard_not (fun h => ?_) (fun h => ?_) | with_reducible refine IfB_ndec (fun h => ?_) (fun h => ?_) | with_reducible refine IfB_not (fun h => ?_) (fun h => ?_) | with_reducible refine Guard_split (fun h => ?_) (fun h => ?_) | with_reducible refine IfB_split (fun h => ?_) (fun h => ?_))
      exact back _ (by repeat (first | exact hAf | refine hA0 _ _ _ (by decide) ?_)) (by simp only [go_sem, Nat.reduceLT, Nat.reduceEqDiff, Nat.reduceAdd, Nat.reduceMul, Nat.reduceSub, Nat.reduceLeDiff, Int.reduceToNat, Int.reduceNeg, Int.reduceLT, Int.reduceLE, Int.reduceEq, reduceCtorEq]) hno
    have i6 : (z : Int) < (o.k).length := by omega
    have e7 := inc_id hlz (by omega)
    obtain ⟨b0, o0, ai, rd0, -⟩ := ot.at_ (by decide) se22 hlz (k := .i64) (z := z) rfl
    rw [show Enc.str.sz = 1 from rfl, str_cells] at rd0
    have hst : key ≠ (o.k)[z] → key ∉ (o.k).take (z + 1) := fun h hm => by
      rw [List.take_succ_eq_append_getElem hlz] at hm
      rcases List.mem_append.1 hm with hm | hm
      · exact hno hm
      · exact h (List.mem_singleton.1 hm)
    have back2 : key ∉ (o.k).take (z + 1) → ∀ fr2, A2 fr2 → fr2.get 24 = .int .i64 ((z + 1 : Nat) : Int) → A fr2 → R2 fr2 J2 := fun h fr2 ha j1 j2 => hR2 fr2 J2 ha ((o.k).length - (z + 1)) (by omega) ⟨z + 1, rfl, by omega, j1, rfl, h, j2⟩
    have hfz := fun h => hfnd z hlz h hno
    have dl := sdel_own m vk (o.k) z hlz (by omega) J2 ot
    clear hR2
    generalize hkz : (o.k)[z] = kz at *
    by_cases hkey : kz = key
    · have hfz := hfz hkey
      clear back back2 hst hfnd
      repeat' (first | simp only [go_sem, Nat.reduceLT, Nat.reduceEqDiff, Nat.reduceAdd, Nat.reduceMul, Nat.reduceSub, Nat.reduceLeDiff, Int.reduceToNat, Int.reduceNeg, Int.reduceLT, Int.reduceLE, Int.reduceEq, reduceCtorEq, Int.natCast_zero, Int.natCast_one, Int.cast_ofNat_Int, Bool.not_not, false_eq_decide, true_eq_decide, hread0, hreadk, read_cons0, read_consk, astore_h0, astore_hk, hget0, hgetk, hset0, hsetk, hlen, hcat, Nat.add_assoc, Nat.add_zero, Nat.zero_add, List.length_append, and_true, true_and, AV.flat, gq, get_app gq, read_get gq, read_app gq, hvo, one_solid hvo, one_cells hvo, *, -hK, -hlt, -x, -x2, -gpb, -ot, -hLo, -hno, -hlz, -hfz, -dl, -hkz] | with_reducible refine IfB_dec (fun h => ?_) (fun h => ?_) | with_reducible refine Guard_dec (fun h => ?_) (fun h => ?_) | with_reducible refine Guard_ndec (fun h => ?_) (fun h => ?_) | with_reducible refine Guard_not (fun h => ?_) (fun h => ?_) | with_reducible refine IfB_ndec (fun h => ?_) (fun h => ?_) | with_reducible refine IfB_not (fun h => ?_) (fun h => ?_) | with_reducible refine Guard_split (fun h => ?_) (fun h => ?_) | with_reducible refine IfB_split (fun h => ?_) (fun h => ?_))
      refine dl.mono ?_
      rintro r H1 ⟨or_, kr, hrb⟩
      have hro := or_.one
      have gq1 := kr.get gq (fun e => x2.kq e)
      repeat' (first | simp only [go_sem, Nat.reduceLT, Nat.reduceEqDiff, Nat.reduceAdd, Nat.reduceMul, Nat.reduceSub, Nat.reduceLeDiff, Int.reduceToNat, Int.reduceNeg, Int.reduceLT, Int.reduceLE, Int.reduceEq, reduceCtorEq, Int.natCast_zero, Int.natCast_one, Int.cast_ofNat_Int, Bool.not_not, false_eq_decide, true_eq_decide, hread0, hreadk, read_cons0, read_consk, astore_h0, astore_hk, hget0, hgetk, hset0, hsetk, hlen, hcat, Nat.add_assoc, Nat.add_zero, Nat.zero_add, List.length_append, and_true, true_and, AV.flat, gq1, get_app gq1, read_get gq1, read_app gq1, gq1, get_app gq1, read_get gq1, read_app gq1, astore_get gq1, astore_app gq1, get_set gq1, get_set_app gq1, read_set gq1, read_set_app gq1, astore_set gq1, astore_set_app gq1, List.set_set, hget0s, hgetks, hread0s, hreadks, List.length_set, hro, one_solid hro, one_cells hro, *, -hK, -hlt, -x, -x2, -gpb, -gq, -hno, -hlz, -hfz, -dl, -hkz, -or_, -kr, -hrb] | with_reducible refine IfB_dec (fun h => ?_) (fun h => ?_) | with_reducible refine Guard_dec (fun h => ?_) (fun h => ?_) | with_reducible refine Guard_ndec (fun h => ?_) (fun h => ?_) | with_reducible refine Guard_not (fun h => ?_) (fun h => ?_) | with_reducible refine IfB_ndec (fun h => ?_) (fun h => ?_) | with_reducible refine IfB_not (fun h => ?_) (fun h => ?_) | with_reducible refine Guard_split (fun h => ?_) (fun h => ?_) | with_reducible refine IfB_split (fun h => ?_) (fun h => ?_))
      exact hfz r H1 or_ kr hrb
    · have back2 := back2 (hst (fun e => hkey e.symm))
      clear hfz hst back hfnd dl
      repeat' (first | simp only [go_sem, Nat.reduceLT, Nat.reduceEqDiff, Nat.reduceAdd, Nat.reduceMul, Nat.reduceSub, Nat.reduceLeDiff, Int.reduceToNat, Int.reduceNeg, Int.reduceLT, Int.reduceLE, Int.reduceEq, reduceCtorEq, Int.natCast_zero, Int.natCast_one, Int.cast_ofNat_Int, Bool.not_not, false_eq_decide, true_eq_decide, hread0, hreadk, read_cons0, read_consk, astore_h0, astore_hk, hget0, hgetk, hset0, hsetk, hlen, hcat, Nat.add_assoc, Nat.add_zero, Nat.zero_add, List.length_append, and_true, true_and, AV.flat, gq, get_app gq, read_get gq, read_app gq, hvo, one_solid hvo, one_cells hvo, *, -hK, -hlt, -x, -x2, -gpb, -ot, -hLo, -hno, -hlz, -back2, -hkz] | with_reducible refine IfB_dec (fun h => ?_) (fun h => ?_) | with_reducible refine Guard_dec (fun h => ?_) (fun h => ?_) | with_reducible refine Guard_ndec (fun h => ?_) (fun h => ?_) | with_reducible refine Guard_not (fun h => ?_) (fun h => ?_) | with_reducible refine IfB_ndec (fun h => ?_) (fun h => ?_) | with_reducible refine IfB_not (fun h => ?_) (fun h => ?_) | with_reducible refine Guard_split (fun h => ?_) (fun h => ?_) | with_reducible refine IfB_split (fun h => ?_) (fun h => ?_))
      exact back2 _ (by (repeat (first | exact hs | refine hA _ _ _ (by decide) ?_))) (by simp only [go_sem, Nat.reduceLT, Nat.reduceEqDiff, Nat.reduceAdd, Nat.reduceMul, Nat.reduceSub, Nat.reduceLeDiff, Int.reduceToNat, Int.reduceNeg, Int.reduceLT, Int.reduceLE, Int.reduceEq, reduceCtorEq]) (by repeat (first | exact hAf | refine hA0 _ _ _ (by decide) ?_))
/-! ### level -/
def levelO (o : Ord) : Ord := ⟨o.k.drop (halfN o) ++ o.t, o.k.take (halfN o)⟩
theorem half_own {zb : Option Nat} {m q : Nat} {H : Heap} {o : Ord} {vt vk : AV} (x : OO zb m H q o vt vk) (hf : o.fit) : WC Try.prog 30 [.agg [vt, vk]] H fun r H' => r = .int .i64 (halfN o) ∧ H' = H :=
  WC_lend_val (args := [.agg [vt, vk]]) (args' := [o.av]) ⟨Thaw.agg_row (l' := [_, _]) ⟨OwnE.thaw (E := Enc.str) (Own.mono x.ot (Nat.zero_le _)) (by decide), OwnE.thaw (E := Enc.str) (Own.mono x.ok (Nat.zero_le _)) (by decide), trivial⟩, trivial⟩ (.cell _ rfl) (fun J => half_spec o hf J)
theorem level_own {zb : Option Nat} {m q : Nat} {H : Heap} {o : Ord} {vt vk : AV} (x : OO zb m H q o vt vk) (hf : o.fit) (hf2 : o.t.length + o.k.length ≤ 999) :
    WC Try.prog 35 [.ptr q 0] H fun r H' => r = .tup [] ∧ (∃ vt' vk', OO zb m H' q (levelO o) vt' vk') ∧ Lo zb m q H H' := by
  refine WC_of_K fun K hK => ?_
  refine WC_of_body hT Try.func35 rfl (by simp [Try.f35]) (by simp [Try.f35]) (wx_sound hT _ ?_)
  simp only [Try.f35]
  repeat' (first | simp only [go_sem, Nat.reduceLT, Nat.reduceEqDiff, Nat.reduceAdd, Nat.reduceMul, Nat.reduceSub, Nat.reduceLeDiff, Int.reduceToNat, Int.reduceNeg, Int.reduceLT, Int.reduceLE, Int.reduceEq, reduceCtorEq, Int.natCast_zero, Int.natCast_one, Int.cast_ofNat_Int, Bool.not_not, false_eq_decide, true_eq_decide, hread0, hreadk, read_cons0, read_consk, astore_h0, astore_hk, hget0, hgetk, hset0, hsetk, hlen, hcat, Nat.add_assoc, Nat.add_zero, Nat.zero_add, List.length_append, and_true, true_and, AV.flat, *, -hK, -x, -hf] | with_reducible refine IfB_dec (fun h => ?_) (fun h => ?_) | with_reducible refine Guard_dec (fun h => ?_) (fun h => ?_) | with_reducible refine Guard_ndec (fun h => ?_) (fun h => ?_) | with_reducible refine Guard_not (fun h => ?_) (fun h => ?_) | with_reducible refine IfB_ndec (fun h => ?_) (fun h => ?_) | with_reducible refine IfB_not (fun h => ?_) (fun h => ?_) | with_reducible refine Guard_split (fun h => ?_) (fun h => ?_) | with_reducible refine IfB_split (fun h => ?_) (fun h => ?_))
  have hh : ∀ z, z ≤ o.k.length → halfN ⟨o.k.drop z ++ o.t, o.k.take z⟩ = halfN o := fun z hz => by
    unfold halfN; simp only [List.length_append, List.length_drop, List.length_take]
    rw [show o.k.length - z + o.t.length + min z o.k.length = o.t.length + o.k.length by omega]
  refine WX_loopS [0] (fun kn fr' J => ∃ (z : Nat) (wt wk : AV), kn = z ∧ z ≤ o.k.length ∧ min (halfN o) o.k.length ≤ z ∧ OO zb m J q ⟨o.k.drop z ++ o.t, o.k.take z⟩ wt wk ∧ Lo zb m q H J) o.k.length ⟨o.k.length, vt, vk, rfl, Nat.le_refl _, Nat.min_le_right _ _, by rw [List.drop_length, List.take_length]; exact x, ⟨Nat.le_refl _, fun _ _ _ => rfl, fun _ _ _ _ => rfl⟩⟩ ?_
  rintro kn fr' J A R hA hs hg hR ⟨z, wt, wk, rfl, hz, hmin, y, hlo⟩
  have s0 := hg 0 (by decide)
  simp only [Fr.get_put, Fr.get_init, List.getD_cons_zero, List.getD_cons_succ, Nat.reduceEqDiff, if_true, if_false] at s0
  refine wx_sound hT _ ?_
  have gq := y.bq
  have hto := y.ot.one
  have hko := y.ok.one
  have hfz : (⟨o.k.drop kn ++ o.t, o.k.take kn⟩ : Ord).fit := by
    refine ⟨?_, ?_⟩
    · show (o.k.drop kn ++ o.t).length ≤ 1000
      rw [List.length_append, List.length_drop]; omega
    · show (o.k.take kn).length ≤ 1000
      rw [List.length_take]; omega
  have hhf := half_own y hfz
  rw [hh kn hz] at hhf
  have e9 := y.ok.alen (T := T) (by decide) tk22
  have hkl : (o.k.take kn).length = kn := by rw [List.length_take]; omega
  simp only [hkl] at e9
  by_cases hgt : (kn : Int) > halfN o
  rotate_left
  · repeat' (first | simp only [go_sem, Nat.reduceLT, Nat.reduceEqDiff, Nat.reduceAdd, Nat.reduceMul, Nat.reduceSub, Nat.reduceLeDiff, Int.reduceToNat, Int.reduceNeg, Int.reduceLT, Int.reduceLE, Int.reduceEq, reduceCtorEq, Int.natCast_zero, Int.natCast_one, Int.cast_ofNat_Int, Bool.not_not, false_eq_decide, true_eq_decide, hread0, hreadk, read_cons0, read_consk, astore_h0, astore_hk, hget0, hgetk, hset0, hsetk, hlen, hcat, Nat.add_assoc, Nat.add_zero, Nat.zero_add, List.length_append, and_true, true_and, AV.flat, gq, get_app gq, read_get gq, read_app gq, hto, one_solid hto, one_cells hto, hko, one_solid hko, one_cells hko, *, -hK, -hh, -y, -hlo, -hfz, -hhf, -hkl, -hmin] | with_reducible refine IfB_dec (fun h => ?_) (fun h => ?_) | with_reducible refine Guard_dec (fun h => ?_) (fun h => ?_) | with_reducible refine Guard_ndec (fun h => ?_) (fun h => ?_) | with_reducible refine Guard_not (fun h => ?_) (fun h => ?_) | with_reducible refine IfB_ndec (fun h => ?_) (fun h => ?_) | with_reducible refine IfB_not (fun h => ?_) (fun h => ?_) | with_reducible refine Guard_split (fun h => ?_) (fun h => ?_) | with_reducible refine IfB_split (fun h => ?_) (fun h => ?_))
    refine WX_rows hT hmix [(0, none), (1, none), (2, none), (3, none), (4, none), (5, none), (6, none), (7, none), (8, some [true, true, true, false, false, false, false, false]), (9, none)] (by kernel_rfl) ?_
    repeat' (first | simp only [go_sem, Nat.reduceLT, Nat.reduceEqDiff, Nat.reduceAdd, Nat.reduceMul, Nat.reduceSub, Nat.reduceLeDiff, Int.reduceToNat, Int.reduceNeg, Int.reduceLT, Int.reduceLE, Int.reduceEq, reduceCtorEq, Int.natCast_zero, Int.natCast_one, Int.cast_ofNat_Int, Bool.not_not, false_eq_decide, true_eq_decide, hread0, hreadk, read_cons0, read_consk, astore_h0, astore_hk, hget0, hgetk, hset0, hsetk, hlen, hcat, Nat.add_assoc, Nat.add_zero, Nat.zero_add, List.length_append, and_true, true_and, AV.flat, gq, get_app gq, read_get gq, read_app gq, hto, one_solid hto, one_cells hto, hko, one_solid hko, one_cells hko, *, -hK, -hh, -y, -hlo, -hfz, -hhf, -hkl, -hmin] | refine WC.call (hhf) ?_ | with_reducible refine IfB_dec (fun h => ?_) (fun h => ?_) | with_reducible refine Guard_dec (fun h => ?_) (fun h => ?_) | with_reducible refine Guard_ndec (fun h => ?_) (fun h => ?_) | with_reducible refine Guard_not (fun h => ?_) (fun h => ?_) | with_reducible refine IfB_ndec (fun h => ?_) (fun h => ?_) | with_reducible refine IfB_not (fun h => ?_) (fun h => ?_) | with_reducible refine Guard_split (fun h => ?_) (fun h => ?_) | with_reducible refine IfB_split (fun h => ?_) (fun h => ?_))
    have e : o.k.drop (halfN o) = o.k.drop kn ∧ o.k.take (halfN o) = o.k.take kn := by
      by_cases h : halfN o = kn
      · rw [h]; exact ⟨rfl, rfl⟩
      · have h1 : kn = o.k.length := by omega
        have h2 : o.k.length ≤ halfN o := by omega
        rw [h1, List.drop_of_length_le h2, List.drop_length, List.take_of_length_le h2, List.take_length]; exact ⟨rfl, rfl⟩
    exact hK _ _ ⟨rfl, ⟨wt, wk, by unfold levelO; rw [e.1, e.2]; exact y⟩, hlo⟩
  repeat' (first | simp only [go_sem, Nat.reduceLT, Nat.reduceEqDiff, Nat.reduceAdd, Nat.reduceMul, Nat.reduceSub, Nat.reduceLeDiff, Int.reduceToNat, Int.reduceNeg, Int.reduceLT, Int.reduceLE, Int.reduceEq, reduceCtorEq, Int.natCast_zero, Int.natCast_one, Int.cast_ofNat_Int, Bool.not_not, false_eq_decide, true_eq_decide, hread0, hreadk, read_cons0, read_consk, astore_h0, astore_hk, hget0, hgetk, hset0, hsetk, hlen, hcat, Nat.add_assoc, Nat.add_zero, Nat.zero_add, List.length_append, and_true, true_and, AV.flat, gq, get_app gq, read_get gq, read_app gq, hto, one_solid hto, one_cells hto, hko, one_solid hko, one_cells hko, *, -hK, -hh, -y, -hlo, -hfz, -hhf, -hkl, -hmin] | with_reducible refine IfB_dec (fun h => ?_) (fun h => ?_) | with_reducible refine Guard_dec (fun h => ?_) (fun h => ?_) | with_reducible refine Guard_ndec (fun h => ?_) (fun h => ?_) | with_reducible refine Guard_not (fun h => ?_) (fun h => ?_) | with_reducible refine IfB_ndec (fun h => ?_) (fun h => ?_) | with_reducible refine IfB_not (fun h => ?_) (fun h => ?_) | with_reducible refine Guard_split (fun h => ?_) (fun h => ?_) | with_reducible refine IfB_split (fun h => ?_) (fun h => ?_))
  refine WX_rows hT hmix [(0, none), (1, none), (2, none), (3, none), (4, none), (5, none), (6, none), (7, none), (8, some [true, true, true, false, false, false, false, false]), (9, none)] (by kernel_rfl) ?_
  repeat' (first | simp only [go_sem, Nat.reduceLT, Nat.reduceEqDiff, Nat.reduceAdd, Nat.reduceMul, Nat.reduceSub, Nat.reduceLeDiff, Int.reduceToNat, Int.reduceNeg, Int.reduceLT, Int.reduceLE, Int.reduceEq, reduceCtorEq, Int.natCast_zero, Int.natCast_one, Int.cast_ofNat_Int, Bool.not_not, false_eq_decide, true_eq_decide, hread0, hreadk, read_cons0, read_consk, astore_h0, astore_hk, hget0, hgetk, hset0, hsetk, hlen, hcat, Nat.add_assoc, Nat.add_zero, Nat.zero_add, List.length_append, and_true, true_and, AV.flat, gq, get_app gq, read_get gq, read_app gq, hto, one_solid hto, one_cells hto, hko, one_solid hko, one_cells hko, *, -hK, -hh, -y, -hlo, -hfz, -hhf, -hkl, -hmin] | refine WC.call (hhf) ?_ | with_reducible refine IfB_dec (fun h => ?_) (fun h => ?_) | with_reducible refine Guard_dec (fun h => ?_) (fun h => ?_) | with_reducible refine Guard_ndec (fun h => ?_) (fun h => ?_) | with_reducible refine Guard_not (fun h => ?_) (fun h => ?_) | with_reducible refine IfB_ndec (fun h => ?_) (fun h => ?_) | with_reducible refine IfB_not (fun h => ?_) (fun h => ?_) | with_reducible refine Guard_split (fun h => ?_) (fun h => ?_) | with_reducible refine IfB_split (fun h => ?_) (fun h => ?_))
  obtain ⟨p, rfl⟩ : ∃ p, kn = p + 1 := ⟨kn - 1, by omega⟩
  have w18 : IntKind.i64.wrap (((p + 1 : Nat) : Int) - 1) = p := by rw [IntKind.wrap_i64]; omega
  have hpk : p < (o.k.take (p + 1)).length := by omega
  have hpk2 : p < o.k.length := by omega
  obtain ⟨b0, o0, ai, rd0, -⟩ := y.ok.at_ (by decide) se22 hpk (k := .i64) (z := p) rfl
  rw [show Enc.str.sz = 1 from rfl, str_cells] at rd0
  simp only [List.getElem_take] at rd0
  have back : ∀ fr2 J2 wt wk, A fr2 → OO zb m J2 q ⟨o.k[p] :: (o.k.drop (p + 1) ++ o.t), o.k.take p⟩ wt wk → Lo zb m q H J2 → R fr2 J2 := fun fr2 J2 wt wk ha q1 q2 => hR fr2 J2 ha p (by omega) ⟨p, wt, wk, rfl, by omega, by omega, by rw [List.drop_eq_getElem_cons hpk2]; exact q1, q2⟩
  clear hR hhf
  generalize o.k[p] = s at *
  have hins := insert_own m wt (o.k.drop (p + 1) ++ o.t) s (J ++ [(⟨[.str s], 1, .full⟩ : Blk)]) J.length (by simp) (y.ot.keep0 (Keep.app none J _)) (fun e => by have := y.ot.lt e; omega) hfz.1 (by have := y.le; simp; omega)
  have gq1 := get_app gq [(⟨[.str s], 1, .full⟩ : Blk)]
  repeat' (first | simp only [go_sem, Nat.reduceLT, Nat.reduceEqDiff, Nat.reduceAdd, Nat.reduceMul, Nat.reduceSub, Nat.reduceLeDiff, Int.reduceToNat, Int.reduceNeg, Int.reduceLT, Int.reduceLE, Int.reduceEq, reduceCtorEq, Int.natCast_zero, Int.natCast_one, Int.cast_ofNat_Int, Bool.not_not, false_eq_decide, true_eq_decide, hread0, hreadk, read_cons0, read_consk, astore_h0, astore_hk, hget0, hgetk, hset0, hsetk, hlen, hcat, Nat.add_assoc, Nat.add_zero, Nat.zero_add, List.length_append, and_true, true_and, AV.flat, gq, get_app gq, read_get gq, read_app gq, hto, one_solid hto, one_cells hto, hko, one_solid hko, one_cells hko, *, -hK, -hh, -y, -hlo, -hfz, -hkl, -hmin, -hins, -back, -hpk, -hpk2] | with_reducible refine IfB_dec (fun h => ?_) (fun h => ?_) | with_reducible refine Guard_dec (fun h => ?_) (fun h => ?_) | with_reducible refine Guard_ndec (fun h => ?_) (fun h => ?_) | with_reducible refine Guard_not (fun h => ?_) (fun h => ?_) | with_reducible refine IfB_ndec (fun h => ?_) (fun h => ?_) | with_reducible refine IfB_not (fun h => ?_) (fun h => ?_) | with_reducible refine Guard_split (fun h => ?_) (fun h => ?_) | with_reducible refine IfB_split (fun h => ?_) (fun h => ?_))
  refine WX_rows hT hmix [(0, none), (1, none), (2, none), (3, none), (4, none), (5, none), (6, none), (7, none), (8, none), (9, none), (10, none), (11, none), (12, none), (13, some [true, true, true, true, true, true, true, true, true, true, true, true, false]), (14, none), (15, none), (16, some [true, true, true, true, true, true, true, true, true, true, true, true, true, true, true, true])] (by kernel_rfl) ?_
  repeat' (first | simp only [go_sem, Nat.reduceLT, Nat.reduceEqDiff, Nat.reduceAdd, Nat.reduceMul, Nat.reduceSub, Nat.reduceLeDiff, Int.reduceToNat, Int.reduceNeg, Int.reduceLT, Int.reduceLE, Int.reduceEq, reduceCtorEq, Int.natCast_zero, Int.natCast_one, Int.cast_ofNat_Int, Bool.not_not, false_eq_decide, true_eq_decide, hread0, hreadk, read_cons0, read_consk, astore_h0, astore_hk, hget0, hgetk, hset0, hsetk, hlen, hcat, Nat.add_assoc, Nat.add_zero, Nat.zero_add, List.length_append, and_true, true_and, AV.flat, gq, get_app gq, read_get gq, read_app gq, hto, one_solid hto, one_cells hto, hko, one_solid hko, one_cells hko, *, -hK, -hh, -y, -hlo, -hfz, -hkl, -hmin, -hins, -back, -hpk, -hpk2] | with_reducible refine IfB_dec (fun h => ?_) (fun h => ?_) | with_reducible refine Guard_dec (fun h => ?_) (fun h => ?_) | with_reducible refine Guard_ndec (fun h => ?_) (fun h => ?_) | with_reducible refine Guard_not (fun h => ?_) (fun h => ?_) | with_reducible refine IfB_ndec (fun h => ?_) (fun h => ?_) | with_reducible refine IfB_not (fun h => ?_) (fun h => ?_) | with_reducible refine Guard_split (fun h => ?_) (fun h => ?_) | with_reducible refine IfB_split (fun h => ?_) (fun h => ?_))
  refine hins.mono ?_
  rintro r H1 ⟨or_, kr, hrn⟩
  have hro := or_.one
  obtain ⟨y1, y2⟩ := (y.keep (Keep.app none J [(⟨[.str s], 1, .full⟩ : Blk)])).setT kr or_ hrn
  have gq2 := kr.get gq1 (fun e => y.tq e)
  generalize hG : (List.set H1 q ⟨[r, wk], 0, .full⟩ : Heap) = G at *
  have gq3 := y1.bq
  obtain ⟨wk2, s1, s2, s3⟩ := y1.ok.first (by decide) se22 (i := p) (by show p ≤ (o.k.take (p + 1)).length; omega) (k := .i64) (z := p) rfl
  have hwk2 := s2.one
  obtain ⟨z1, z2⟩ := y1.setK (H1 := G) (Keep.refl _ _) s2 (fun b hb => .inl (by rw [← s3]; exact hb))
  have etk : (o.k.take (p + 1)).take p = o.k.take p := by rw [List.take_take, Nat.min_eq_left (by omega)]
  simp only [etk] at z1
  have hLo2 : Lo zb m q H (List.set G q ⟨[r, wk2], 0, .full⟩) := ((hlo.trans (Lo.of (Keep.app none J _) y.le)).trans y2).trans z2
  clear y1 y2 z2 s2 s3 kr or_ hrn hins
  repeat' (first | simp only [go_sem, Nat.reduceLT, Nat.reduceEqDiff, Nat.reduceAdd, Nat.reduceMul, Nat.reduceSub, Nat.reduceLeDiff, Int.reduceToNat, Int.reduceNeg, Int.reduceLT, Int.reduceLE, Int.reduceEq, reduceCtorEq, Int.natCast_zero, Int.natCast_one, Int.cast_ofNat_Int, Bool.not_not, false_eq_decide, true_eq_decide, hread0, hreadk, read_cons0, read_consk, astore_h0, astore_hk, hget0, hgetk, hset0, hsetk, hlen, hcat, Nat.add_assoc, Nat.add_zero, Nat.zero_add, List.length_append, and_true, true_and, AV.flat, gq2, get_app gq2, read_get gq2, read_app gq2, gq2, get_app gq2, read_get gq2, read_app gq2, astore_get gq2, astore_app gq2, get_set gq2, get_set_app gq2, read_set gq2, read_set_app gq2, astore_set gq2, astore_set_app gq2, List.set_set, hget0s, hgetks, hread0s, hreadks, List.length_set, gq3, get_app gq3, read_get gq3, read_app gq3, gq3, get_app gq3, read_get gq3, read_app gq3, astore_get gq3, astore_app gq3, get_set gq3, get_set_app gq3, read_set gq3, read_set_app gq3, astore_set gq3, astore_set_app gq3, List.set_set, hget0s, hgetks, hread0s, hreadks, List.length_set, hto, one_solid hto, one_cells hto, hko, one_solid hko, one_cells hko, hro, one_solid hro, one_cells hro, hwk2, one_solid hwk2, one_cells hwk2, *, -hK, -hh, -y, -hlo, -hfz, -hkl, -hmin, -back, -hpk, -hpk2, -z1, -hLo2, -etk, -gq1, -gq] | with_reducible refine IfB_dec (fun h => ?_) (fun h => ?_) | with_reducible refine Guard_dec (fun h => ?_) (fun h => ?_) | with_reducible refine Guard_ndec (fun h => ?_) (fun h => ?_) | with_reducible refine Guard_not (fun h => ?_) (fun h => ?_) | with_reducible refine IfB_ndec (fun h => ?_) (fun h => ?_) | with_reducible refine IfB_not (fun h => ?_) (fun h => ?_) | with_reducible refine Guard_split (fun h => ?_) (fun h => ?_) | with_reducible refine IfB_split (fun h => ?_) (fun h => ?_))
  exact back _ _ _ _ (by (repeat (first | exact hs | refine hA _ _ _ (by decide) ?_))) z1 hLo2
end Go.Proofs.Ytakllaigpjbgdaa
