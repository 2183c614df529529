import Derived.Test.YtakllaigpjbgdaaLruK
set_option linter.unusedSimpArgs false
set_option linter.unusedVariables false
set_option maxRecDepth 100000
set_option maxHeartbeats 4000000
namespace Go.Proofs.Ytakllaigpjbgdaa
open Go Go.Proofs Go.Proofs.PI
theorem lruAll_walk (avs : List AV) (h : InpPAll T 9 [24] avs) : WC Try.prog 8 avs [] fun v _ => v = .bool true := by
  obtain ⟨a0, _, rfl, h0, h⟩ := h.cons
  obtain rfl := h.nil
  obtain ⟨o, rfl, hi1, hi2⟩ := inp_ord h0
  clear h0 h
  generalize ([] : Heap) = H
  refine WC_of_K fun K hK => ?_
  have gr := fun J => great_spec o hi1 hi2 J
  have ck := fun hf J => check_spec o hf J
  have al := fun hf J => All_spec o hf J
  unfold Ord.av at *
  refine WC_of_body hT Try.func8 rfl (by simp [Try.f8]) (by simp [Try.f8]) (wx_sound hT _ ?_)
  simp only [Try.f8]
  repeat' (first | simp only [go_sem, Nat.reduceLT, Nat.reduceEqDiff, Nat.reduceAdd, Nat.reduceMul, Nat.reduceSub, Nat.reduceLeDiff, Int.reduceToNat, Int.reduceNeg, Int.reduceLT, Int.reduceLE, Int.reduceEq, reduceCtorEq, Int.natCast_zero, Int.natCast_one, Int.cast_ofNat_Int, Bool.not_not, false_eq_decide, true_eq_decide, hread0, hreadk, read_cons0, read_consk, astore_h0, astore_hk, hget0, hgetk, hset0, hsetk, hlen, hcat, Nat.add_assoc, Nat.add_zero, Nat.zero_add, List.length_append, and_true, true_and, AV.flat, *, -hK, -gr, -ck, -al, -hi1, -hi2] | refine WC.call (alive_spec _) ?_ | with_reducible refine IfB_dec (fun h => ?_) (fun h => ?_) | with_reducible refine Guard_dec (fun h => ?_) (fun h => ?_) | with_reducible refine Guard_ndec (fun h => ?_) (fun h => ?_) | with_reducible refine Guard_not (fun h => ?_) (fun h => ?_) | with_reducible refine IfB_ndec (fun h => ?_) (fun h => ?_) | with_reducible refine IfB_not (fun h => ?_) (fun h => ?_) | with_reducible refine Guard_split (fun h => ?_) (fun h => ?_) | with_reducible refine IfB_split (fun h => ?_) (fun h => ?_))
  refine (gr _).mono ?_
  rintro r1 H1 ⟨⟨bl, rfl, hbl⟩, rfl⟩
  clear gr
  cases bl with
  | true =>
    repeat' (first | simp only [go_sem, Nat.reduceLT, Nat.reduceEqDiff, Nat.reduceAdd, Nat.reduceMul, Nat.reduceSub, Nat.reduceLeDiff, Int.reduceToNat, Int.reduceNeg, Int.reduceLT, Int.reduceLE, Int.reduceEq, reduceCtorEq, Int.natCast_zero, Int.natCast_one, Int.cast_ofNat_Int, Bool.not_not, false_eq_decide, true_eq_decide, hread0, hreadk, read_cons0, read_consk, astore_h0, astore_hk, hget0, hgetk, hset0, hsetk, hlen, hcat, Nat.add_assoc, Nat.add_zero, Nat.zero_add, List.length_append, and_true, true_and, AV.flat, *, -hK, -ck, -al, -hbl, -hi1, -hi2] | with_reducible refine IfB_dec (fun h => ?_) (fun h => ?_) | with_reducible refine Guard_dec (fun h => ?_) (fun h => ?_) | with_reducible refine Guard_ndec (fun h => ?_) (fun h => ?_) | with_reducible refine Guard_not (fun h => ?_) (fun h => ?_) | with_reducible refine IfB_ndec (fun h => ?_) (fun h => ?_) | with_reducible refine IfB_not (fun h => ?_) (fun h => ?_) | with_reducible refine Guard_split (fun h => ?_) (fun h => ?_) | with_reducible refine IfB_split (fun h => ?_) (fun h => ?_))
    exact hK _ _ rfl
  | false =>
  have hlen := hbl rfl
  have hf : o.fit := ⟨by omega, by omega⟩
  replace ck := ck hf
  replace al := al hf
  clear hbl
  by_cases hm : o.may
  rotate_left
  · rw [ordE_bad hm] at ck
    repeat' (first | simp only [go_sem, Nat.reduceLT, Nat.reduceEqDiff, Nat.reduceAdd, Nat.reduceMul, Nat.reduceSub, Nat.reduceLeDiff, Int.reduceToNat, Int.reduceNeg, Int.reduceLT, Int.reduceLE, Int.reduceEq, reduceCtorEq, Int.natCast_zero, Int.natCast_one, Int.cast_ofNat_Int, Bool.not_not, false_eq_decide, true_eq_decide, hread0, hreadk, read_cons0, read_consk, astore_h0, astore_hk, hget0, hgetk, hset0, hsetk, hlen, hcat, Nat.add_assoc, Nat.add_zero, Nat.zero_add, List.length_append, and_true, true_and, AV.flat, *, -hK, -ck, -al, -hlen, -hi1, -hi2, -hm, -hf] | refine WC.call (ck _) ?_ | with_reducible refine IfB_dec (fun h => ?_) (fun h => ?_) | with_reducible refine Guard_dec (fun h => ?_) (fun h => ?_) | with_reducible refine Guard_ndec (fun h => ?_) (fun h => ?_) | with_reducible refine Guard_not (fun h => ?_) (fun h => ?_) | with_reducible refine IfB_ndec (fun h => ?_) (fun h => ?_) | with_reducible refine IfB_not (fun h => ?_) (fun h => ?_) | with_reducible refine Guard_split (fun h => ?_) (fun h => ?_) | with_reducible refine IfB_split (fun h => ?_) (fun h => ?_))
    exact hK _ _ rfl
  rw [ordE_ok hm] at ck al
  rw [show allO o = allL (tot o) o from if_pos hm] at al
  have hll := allL_length (tot o) o hm rfl
  have w1 : IntKind.i64.wrap ((o.t.length : Int) + o.k.length) = (allL (tot o) o).length := by
    rw [hll, IntKind.wrap_i64]; unfold tot; omega
  have htot := may_tot hm
  generalize hL : allL (tot o) o = L at *
  repeat' (first | simp only [go_sem, Nat.reduceLT, Nat.reduceEqDiff, Nat.reduceAdd, Nat.reduceMul, Nat.reduceSub, Nat.reduceLeDiff, Int.reduceToNat, Int.reduceNeg, Int.reduceLT, Int.reduceLE, Int.reduceEq, reduceCtorEq, Int.natCast_zero, Int.natCast_one, Int.cast_ofNat_Int, Bool.not_not, false_eq_decide, true_eq_decide, hread0, hreadk, read_cons0, read_consk, astore_h0, astore_hk, hget0, hgetk, hset0, hsetk, hlen, hcat, Nat.add_assoc, Nat.add_zero, Nat.zero_add, List.length_append, and_true, true_and, AV.flat, *, -hK, -ck, -al, -hlen, -hi1, -hi2, -hm, -hf, -hll, -hL, -htot] | refine WC.call (ck _) ?_ | refine WC.call (al _) ?_ | with_reducible refine IfB_dec (fun h => ?_) (fun h => ?_) | with_reducible refine Guard_dec (fun h => ?_) (fun h => ?_) | with_reducible refine Guard_ndec (fun h => ?_) (fun h => ?_) | with_reducible refine Guard_not (fun h => ?_) (fun h => ?_) | with_reducible refine IfB_ndec (fun h => ?_) (fun h => ?_) | with_reducible refine IfB_not (fun h => ?_) (fun h => ?_) | with_reducible refine Guard_split (fun h => ?_) (fun h => ?_) | with_reducible refine IfB_split (fun h => ?_) (fun h => ?_))
  refine WX_loopS [1, 3, 4] (fun kn fr' J => ∃ (i : Nat) (oc : Ord), kn = L.length - i ∧ i ≤ L.length ∧ fr'.get 6 = .int .i64 i ∧ J[H.length]? = some (⟨[Enc.str.lst oc.t, Enc.str.lst oc.k], 0, .full⟩ : Blk) ∧ oc.may ∧ allL (tot oc) oc = L.drop i ∧ tot oc + i = L.length) L.length ⟨0, o, rfl, by omega, by simp only [go_sem, Nat.reduceLT, Nat.reduceEqDiff, Nat.reduceAdd, Nat.reduceMul, Nat.reduceSub, Nat.reduceLeDiff, Int.reduceToNat, Int.reduceNeg, Int.reduceLT, Int.reduceLE, Int.reduceEq, reduceCtorEq]; rfl, by rw [hget0]; rfl, hm, hL, by omega⟩ ?_
  clear ck al
  rintro kn fr' J A R hA hs hg hR ⟨i, oc, rfl, hi, f6, g0, hmc, hac, htc⟩
  have s1 := hg 1 (by decide)
  have s3 := hg 3 (by decide)
  have s4 := hg 4 (by decide)
  simp only [Fr.get_put, Fr.get_init, List.getD_cons_zero, List.getD_cons_succ, Nat.reduceEqDiff, if_true, if_false] at s1 s3 s4
  refine wx_sound hT _ ?_
  have hJl := (List.getElem?_eq_some_iff.1 g0).1
  have htt := may_tot hmc
  have hfc : oc.fit := ⟨by unfold tot at htt; omega, by unfold tot at htt; omega⟩
  have vc := fun J => Victim_spec oc hfc J
  rw [show vicS oc = (vicO oc).1 from if_pos hmc, show vicE oc = if (vicO oc).2 = true then 0 else 6 from if_pos hmc] at vc
  unfold Ord.av at vc
  by_cases hlt : i < L.length
  · have i1 : (i : Int) < L.length := by omega
    have e3 := inc_id hlt (by omega)
    have e1 := at_enc (E := Enc.str) (T := T) (k := .i64) se22 hlt rfl
    rw [str_cells] at e1
    obtain ⟨d1, d2, d3, d4⟩ := del_vic hmc (by omega)
    rw [vicO_tot (by omega), if_pos rfl] at vc
    have hac2 : (vicO oc).1 = L[i] ∧ allL (tot (levelO (takeO oc (vicO oc).1))) (levelO (takeO oc (vicO oc).1)) = L.drop (i + 1) := by
      have e : tot oc = tot (levelO (takeO oc (vicO oc).1)) + 1 := d4.symm
      rw [e, allL, if_pos (vicO_tot (by omega)), List.drop_eq_getElem_cons hlt] at hac
      exact ⟨(List.cons.inj hac).1, (List.cons.inj hac).2⟩
    have dl := fun J => del_spec oc hfc (vicO oc).1 J
    rw [d1, d2] at dl
    rw [hac2.1] at vc dl d3 d4
    rw [hac2.1] at hac2
    generalize levelO (takeO oc L[i]) = o2 at *
    have back : ∀ fr2 J2, A fr2 → fr2.get 6 = .int .i64 ((i + 1 : Nat) : Int) → J2[H.length]? = some (⟨[Enc.str.lst o2.t, Enc.str.lst o2.k], 0, .full⟩ : Blk) → R fr2 J2 := fun fr2 J2 ha q1 q2 => hR fr2 J2 ha (L.length - (i + 1)) (by omega) ⟨i + 1, o2, rfl, by omega, q1, q2, d3, hac2.2, by omega⟩
    clear hR hac2 d1 d2 hac
    generalize L[i] = s at *
    unfold Ord.av at dl
    repeat' (first | simp only [go_sem, Nat.reduceLT, Nat.reduceEqDiff, Nat.reduceAdd, Nat.reduceMul, Nat.reduceSub, Nat.reduceLeDiff, Int.reduceToNat, Int.reduceNeg, Int.reduceLT, Int.reduceLE, Int.reduceEq, reduceCtorEq, Int.natCast_zero, Int.natCast_one, Int.cast_ofNat_Int, Bool.not_not, false_eq_decide, true_eq_decide, hread0, hreadk, read_cons0, read_consk, astore_h0, astore_hk, hget0, hgetk, hset0, hsetk, hlen, hcat, Nat.add_assoc, Nat.add_zero, Nat.zero_add, List.length_append, and_true, true_and, AV.flat, g0, get_app g0, read_get g0, read_app g0, *, -hK, -vc, -dl, -hlt, -hmc, -htc, -htt, -hfc, -d3, -d4, -back, -hJl, -hlen, -hm, -hf, -hll, -hL, -htot, -hi1, -hi2] | refine WC.call (vc _) ?_ | with_reducible refine IfB_dec (fun h => ?_) (fun h => ?_) | with_reducible refine Guard_dec (fun h => ?_) (fun h => ?_) | with_reducible refine Guard_ndec (fun h => ?_) (fun h => ?_) | with_reducible refine Guard_not (fun h => ?_) (fun h => ?_) | with_reducible refine IfB_ndec (fun h => ?_) (fun h => ?_) | with_reducible refine IfB_not (fun h => ?_) (fun h => ?_) | with_reducible refine Guard_split (fun h => ?_) (fun h => ?_) | with_reducible refine IfB_split (fun h => ?_) (fun h => ?_))
    refine WX_rows hT hmix [(0, none), (1, none), (2, none), (3, none), (4, none), (9, none), (5, some [false, true, true, true, true, true]), (6, none), (7, none), (8, none), (10, some [false, true, true, true, true, true, true, true, true, true]), (11, none)] (by kernel_rfl) ?_
    repeat' (first | simp only [go_sem, Nat.reduceLT, Nat.reduceEqDiff, Nat.reduceAdd, Nat.reduceMul, Nat.reduceSub, Nat.reduceLeDiff, Int.reduceToNat, Int.reduceNeg, Int.reduceLT, Int.reduceLE, Int.reduceEq, reduceCtorEq, Int.natCast_zero, Int.natCast_one, Int.cast_ofNat_Int, Bool.not_not, false_eq_decide, true_eq_decide, hread0, hreadk, read_cons0, read_consk, astore_h0, astore_hk, hget0, hgetk, hset0, hsetk, hlen, hcat, Nat.add_assoc, Nat.add_zero, Nat.zero_add, List.length_append, and_true, true_and, AV.flat, g0, get_app g0, read_get g0, read_app g0, *, -hK, -vc, -dl, -hlt, -hmc, -htc, -htt, -hfc, -d3, -d4, -back, -hJl, -hlen, -hm, -hf, -hll, -hL, -htot, -hi1, -hi2] | refine WC.call (dl _) ?_ | with_reducible refine IfB_dec (fun h => ?_) (fun h => ?_) | with_reducible refine Guard_dec (fun h => ?_) (fun h => ?_) | with_reducible refine Guard_ndec (fun h => ?_) (fun h => ?_) | with_reducible refine Guard_not (fun h => ?_) (fun h => ?_) | with_reducible refine IfB_ndec (fun h => ?_) (fun h => ?_) | with_reducible refine IfB_not (fun h => ?_) (fun h => ?_) | with_reducible refine Guard_split (fun h => ?_) (fun h => ?_) | with_reducible refine IfB_split (fun h => ?_) (fun h => ?_))
    have g1b := get_app g0 [(⟨[Enc.str.lst o2.t, Enc.str.lst o2.k], 0, .full⟩ : Blk)]
    have g2b : (J ++ [(⟨[Enc.str.lst o2.t, Enc.str.lst o2.k], 0, .full⟩ : Blk)])[J.length]? = some ⟨[Enc.str.lst o2.t, Enc.str.lst o2.k], 0, .full⟩ := by simp
    repeat' (first | simp only [go_sem, Nat.reduceLT, Nat.reduceEqDiff, Nat.reduceAdd, Nat.reduceMul, Nat.reduceSub, Nat.reduceLeDiff, Int.reduceToNat, Int.reduceNeg, Int.reduceLT, Int.reduceLE, Int.reduceEq, reduceCtorEq, Int.natCast_zero, Int.natCast_one, Int.cast_ofNat_Int, Bool.not_not, false_eq_decide, true_eq_decide, hread0, hreadk, read_cons0, read_consk, astore_h0, astore_hk, hget0, hgetk, hset0, hsetk, hlen, hcat, Nat.add_assoc, Nat.add_zero, Nat.zero_add, List.length_append, and_true, true_and, AV.flat, g2b, get_app g2b, read_get g2b, read_app g2b, g1b, get_app g1b, read_get g1b, read_app g1b, astore_get g1b, astore_app g1b, get_set g1b, get_set_app g1b, read_set g1b, read_set_app g1b, astore_set g1b, astore_set_app g1b, List.set_set, hget0s, hgetks, hread0s, hreadks, List.length_set, *, -hK, -g0, -vc, -dl, -hlt, -hmc, -htc, -htt, -hfc, -d3, -d4, -back, -hJl, -hlen, -hm, -hf, -hll, -hL, -htot, -hi1, -hi2] | with_reducible refine IfB_dec (fun h => ?_) (fun h => ?_) | with_reducible refine Guard_dec (fun h => ?_) (fun h => ?_) | with_reducible refine Guard_ndec (fun h => ?_) (fun h => ?_) | with_reducible refine Guard_not (fun h => ?_) (fun h => ?_) | with_reducible refine IfB_ndec (fun h => ?_) (fun h => ?_) | with_reducible refine IfB_not (fun h => ?_) (fun h => ?_) | with_reducible refine Guard_split (fun h => ?_) (fun h => ?_) | with_reducible refine IfB_split (fun h => ?_) (fun h => ?_))
    exact back _ _ (by (repeat (first | exact hs | refine hA _ _ _ (by decide) ?_))) (by simp only [go_sem, Nat.reduceLT, Nat.reduceEqDiff, Nat.reduceAdd, Nat.reduceMul, Nat.reduceSub, Nat.reduceLeDiff, Int.reduceToNat, Int.reduceNeg, Int.reduceLT, Int.reduceLE, Int.reduceEq, reduceCtorEq]) (List.getElem?_set_self (by simp; omega))
  have i1 : ¬ (i : Int) < L.length := by omega
  have hv : (vicO oc).2 = false := by
    cases h : (vicO oc).2 with
    | false => rfl
    | true => have := vic_tot h; omega
  rw [hv, if_neg (by decide)] at vc
  repeat' (first | simp only [go_sem, Nat.reduceLT, Nat.reduceEqDiff, Nat.reduceAdd, Nat.reduceMul, Nat.reduceSub, Nat.reduceLeDiff, Int.reduceToNat, Int.reduceNeg, Int.reduceLT, Int.reduceLE, Int.reduceEq, reduceCtorEq, Int.natCast_zero, Int.natCast_one, Int.cast_ofNat_Int, Bool.not_not, false_eq_decide, true_eq_decide, hread0, hreadk, read_cons0, read_consk, astore_h0, astore_hk, hget0, hgetk, hset0, hsetk, hlen, hcat, Nat.add_assoc, Nat.add_zero, Nat.zero_add, List.length_append, and_true, true_and, AV.flat, g0, get_app g0, read_get g0, read_app g0, *, -hK, -vc, -hlt, -hmc, -htc, -htt, -hfc, -hJl, -hlen, -hm, -hf, -hll, -hL, -htot, -hi1, -hi2, -hv, -hac] | refine WC.call (vc _) ?_ | with_reducible refine IfB_dec (fun h => ?_) (fun h => ?_) | with_reducible refine Guard_dec (fun h => ?_) (fun h => ?_) | with_reducible refine Guard_ndec (fun h => ?_) (fun h => ?_) | with_reducible refine Guard_not (fun h => ?_) (fun h => ?_) | with_reducible refine IfB_ndec (fun h => ?_) (fun h => ?_) | with_reducible refine IfB_not (fun h => ?_) (fun h => ?_) | with_reducible refine Guard_split (fun h => ?_) (fun h => ?_) | with_reducible refine IfB_split (fun h => ?_) (fun h => ?_))
  exact hK _ _ rfl
end Go.Proofs.Ytakllaigpjbgdaa
