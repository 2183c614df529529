import Derived.Test.YtakllaigpjbgdaaLruT4
set_option linter.unusedSimpArgs false
set_option linter.unusedVariables false
set_option maxRecDepth 100000
set_option maxHeartbeats 4000000
namespace Go.Proofs.Ytakllaigpjbgdaa
open Go Go.Proofs Go.Proofs.PI
theorem vicE_tot {o : Ord} (hm : o.may) (h : tot o ≠ 0) : vicE o = 0 ∧ vicS o = (vicO o).1 := by
  unfold vicE vicS
  rw [if_pos hm, if_pos hm, if_pos (vicO_tot h)]
  exact ⟨rfl, rfl⟩
theorem vicE_zero {o : Ord} (hm : o.may) (h : tot o = 0) : vicE o = 6 ∧ vicS o = [] := by
  unfold tot at h
  have h1 : o.t = [] := List.eq_nil_of_length_eq_zero (by omega)
  have h2 : o.k = [] := List.eq_nil_of_length_eq_zero (by omega)
  have hv : vicO o = ([], false) := by unfold vicO; rw [if_pos h1, if_pos h2]
  unfold vicE vicS
  rw [if_pos hm, if_pos hm, hv]
  exact ⟨rfl, rfl⟩
theorem rAll_spec (o : Ord) (hf : o.fit) (H : Heap) : WC Try.prog 27 [o.av] H fun r H' => r = .tup [Enc.str.lst (allO o), .int .i64 (ordE o)] ∧ H' = H := by
  refine WC_val fun K hK => ?_
  have ck := fun J => rCheck_spec o hf J
  by_cases hm : o.may
  rotate_left
  · rw [ordE_bad hm] at ck hK
    rw [show allO o = [] from if_neg hm] at hK
    unfold Ord.av at *
    refine WC_of_body hT Try.func27 rfl (by simp [Try.f27]) (by simp [Try.f27]) (wx_sound hT _ ?_)
    simp only [Try.f27]
    repeat' (first | simp only [go_sem, Nat.reduceLT, Nat.reduceEqDiff, Nat.reduceAdd, Nat.reduceMul, Nat.reduceSub, Nat.reduceLeDiff, Int.reduceToNat, Int.reduceNeg, Int.reduceLT, Int.reduceLE, Int.reduceEq, reduceCtorEq, Int.natCast_zero, Int.natCast_one, Int.cast_ofNat_Int, Bool.not_not, false_eq_decide, true_eq_decide, hread0, hreadk, read_cons0, read_consk, astore_h0, astore_hk, hget0, hgetk, hset0, hsetk, hlen, hcat, Nat.add_assoc, Nat.add_zero, Nat.zero_add, List.length_append, and_true, true_and, AV.flat, *, -hK, -ck, -hm, -hf] | refine WC.call (ck _) ?_ | with_reducible refine IfB_dec (fun h => ?_) (fun h => ?_) | with_reducible refine Guard_dec (fun h => ?_) (fun h => ?_) | with_reducible refine Guard_ndec (fun h => ?_) (fun h => ?_) | with_reducible refine Guard_not (fun h => ?_) (fun h => ?_) | with_reducible refine IfB_ndec (fun h => ?_) (fun h => ?_) | with_reducible refine IfB_not (fun h => ?_) (fun h => ?_) | with_reducible refine Guard_split (fun h => ?_) (fun h => ?_) | with_reducible refine IfB_split (fun h => ?_) (fun h => ?_))
    exact hK _ _ (Thaw.tup_row ⟨.nils, .int _ _, trivial⟩) (Keep.app _ _ _)
  rw [ordE_ok hm] at ck hK
  rw [show allO o = allL (tot o) o from if_pos hm] at hK
  have htot : tot o ≤ 256 := hm.1
  unfold Ord.av at *
  refine WC_of_body hT Try.func27 rfl (by simp [Try.f27]) (by simp [Try.f27]) (wx_sound hT _ ?_)
  simp only [Try.f27]
  repeat' (first | simp only [go_sem, Nat.reduceLT, Nat.reduceEqDiff, Nat.reduceAdd, Nat.reduceMul, Nat.reduceSub, Nat.reduceLeDiff, Int.reduceToNat, Int.reduceNeg, Int.reduceLT, Int.reduceLE, Int.reduceEq, reduceCtorEq, Int.natCast_zero, Int.natCast_one, Int.cast_ofNat_Int, Bool.not_not, false_eq_decide, true_eq_decide, hread0, hreadk, read_cons0, read_consk, astore_h0, astore_hk, hget0, hgetk, hset0, hsetk, hlen, hcat, Nat.add_assoc, Nat.add_zero, Nat.zero_add, List.length_append, and_true, true_and, AV.flat, *, -hK, -ck, -hm, -hf, -htot] | refine WC.call (ck _) ?_ | with_reducible refine IfB_dec (fun h => ?_) (fun h => ?_) | with_reducible refine Guard_dec (fun h => ?_) (fun h => ?_) | with_reducible refine Guard_ndec (fun h => ?_) (fun h => ?_) | with_reducible refine Guard_not (fun h => ?_) (fun h => ?_) | with_reducible refine IfB_ndec (fun h => ?_) (fun h => ?_) | with_reducible refine IfB_not (fun h => ?_) (fun h => ?_) | with_reducible refine Guard_split (fun h => ?_) (fun h => ?_) | with_reducible refine IfB_split (fun h => ?_) (fun h => ?_))
  clear ck
  have kG : Keep none H (H ++ [(⟨[Enc.str.lst o.t, Enc.str.lst o.k], 0, .full⟩ : Blk)]) := Keep.app _ _ _
  have g0 : (H ++ [(⟨[Enc.str.lst o.t, Enc.str.lst o.k], 0, .full⟩ : Blk)])[H.length]? = some ⟨[Enc.str.lst o.t, Enc.str.lst o.k], 0, .full⟩ := by simp
  have hG1 : H.length + 1 ≤ (H ++ [(⟨[Enc.str.lst o.t, Enc.str.lst o.k], 0, .full⟩ : Blk)]).length := by simp
  generalize (H ++ [(⟨[Enc.str.lst o.t, Enc.str.lst o.k], 0, .full⟩ : Blk)] : Heap) = G at *
  refine WX_loopS [1] (fun kn fr' J => ∃ (oc : Ord) (acc : List (List UInt8)) (w : AV), kn = tot oc ∧ fr'.get 5 = w ∧ OwnE Enc.str (H.length + 1) J w acc ∧ J[H.length]? = some ⟨[Enc.str.lst oc.t, Enc.str.lst oc.k], 0, .full⟩ ∧ Keep none H J ∧ H.length + 1 ≤ J.length ∧ acc ++ allL (tot oc) oc = allL (tot o) o ∧ oc.may) (tot o) ⟨o, [], .nils, rfl, by simp only [go_sem, Nat.reduceLT, Nat.reduceEqDiff, Nat.reduceAdd, Nat.reduceMul, Nat.reduceSub, Nat.reduceLeDiff, Int.reduceToNat, Int.reduceNeg, Int.reduceLT, Int.reduceLE, Int.reduceEq, reduceCtorEq], OwnE.nils _ _ _, g0, kG, hG1, rfl, hm⟩ ?_
  clear kG g0 hG1 hm
  rintro kn fr' J A R hA hs hg hR ⟨oc, acc, w, rfl, f5, ow, gq, kJ, hJ1, hacc, hmc⟩
  have s1 := hg 1 (by decide)
  simp only [Fr.get_put, Fr.get_init, List.getD_cons_zero, List.getD_cons_succ, Nat.reduceEqDiff, if_true, if_false] at s1
  refine wx_sound hT _ ?_
  have hwo := ow.one
  have hfc : oc.fit := may_fit hmc
  have vc := fun J => rVictim_spec oc hfc J
  by_cases ht0 : tot oc = 0
  · rw [(vicE_zero hmc ht0).1, (vicE_zero hmc ht0).2] at vc
    rw [ht0] at hacc
    rw [show allL 0 oc = [] from rfl, List.append_nil] at hacc
    rw [hacc] at ow
    clear hR
    unfold Ord.av at vc
    repeat' (first | simp only [go_sem, Nat.reduceLT, Nat.reduceEqDiff, Nat.reduceAdd, Nat.reduceMul, Nat.reduceSub, Nat.reduceLeDiff, Int.reduceToNat, Int.reduceNeg, Int.reduceLT, Int.reduceLE, Int.reduceEq, reduceCtorEq, Int.natCast_zero, Int.natCast_one, Int.cast_ofNat_Int, Bool.not_not, false_eq_decide, true_eq_decide, hread0, hreadk, read_cons0, read_consk, astore_h0, astore_hk, hget0, hgetk, hset0, hsetk, hlen, hcat, Nat.add_assoc, Nat.add_zero, Nat.zero_add, List.length_append, and_true, true_and, AV.flat, gq, get_app gq, read_get gq, read_app gq, hwo, one_solid hwo, one_cells hwo, *, -hK, -ow, -kJ, -hJ1, -hacc, -ht0, -hmc, -hfc, -vc, -hf, -htot] | refine WC.call (vc _) ?_ | with_reducible refine IfB_dec (fun h => ?_) (fun h => ?_) | with_reducible refine Guard_dec (fun h => ?_) (fun h => ?_) | with_reducible refine Guard_ndec (fun h => ?_) (fun h => ?_) | with_reducible refine Guard_not (fun h => ?_) (fun h => ?_) | with_reducible refine IfB_ndec (fun h => ?_) (fun h => ?_) | with_reducible refine IfB_not (fun h => ?_) (fun h => ?_) | with_reducible refine Guard_split (fun h => ?_) (fun h => ?_) | with_reducible refine IfB_split (fun h => ?_) (fun h => ?_))
    exact hK _ _ (Thaw.tup_row ⟨OwnE.thaw (E := Enc.str) (Own.mono ow (m' := H.length) (by omega)) (by decide), .int _ _, trivial⟩) kJ
  rw [(vicE_tot hmc ht0).1, (vicE_tot hmc ht0).2] at vc
  obtain ⟨hd1, hd2, hd3, hd4⟩ := del_vic hmc ht0
  have dl := fun J => rDel_spec oc hfc (vicO oc).1 J
  rw [hd1, hd2] at dl
  have hal : allL (tot oc) oc = (vicO oc).1 :: allL (tot (levelO (takeO oc (vicO oc).1))) (levelO (takeO oc (vicO oc).1)) := by
    obtain ⟨n, hn⟩ : ∃ n, tot oc = n + 1 := ⟨tot oc - 1, by omega⟩
    rw [hn, allL, if_pos (vicO_tot ht0)]
    rw [show tot (levelO (takeO oc (vicO oc).1)) = n by omega]
  have hacl : acc.length ≤ 256 := by
    have h1 := congrArg List.length hacc
    rw [List.length_append] at h1
    have := allL_len (tot o) o
    omega
  have back : ∀ fr2 J2 w2 oc2, oc2 = levelO (takeO oc (vicO oc).1) → A fr2 → fr2.get 5 = w2 → OwnE Enc.str (H.length + 1) J2 w2 (acc ++ [(vicO oc).1]) → J2[H.length]? = some ⟨[Enc.str.lst oc2.t, Enc.str.lst oc2.k], 0, .full⟩ → Keep none H J2 → H.length + 1 ≤ J2.length → R fr2 J2 := fun fr2 J2 w2 oc2 he ha q1 q2 q3 q4 q5 => by
    subst he
    refine hR fr2 J2 ha (tot (levelO (takeO oc (vicO oc).1))) (by omega) ⟨_, _, w2, rfl, q1, q2, q3, q4, q5, ?_, hd3⟩
    rw [List.append_assoc, List.singleton_append, ← hal, hacc]
  clear hR hal hacc hd1 hd2 hd3 hd4
  generalize (vicO oc).1 = s at *
  generalize levelO (takeO oc s) = oc2 at *
  unfold Ord.av at vc dl
  repeat' (first | simp only [go_sem, Nat.reduceLT, Nat.reduceEqDiff, Nat.reduceAdd, Nat.reduceMul, Nat.reduceSub, Nat.reduceLeDiff, Int.reduceToNat, Int.reduceNeg, Int.reduceLT, Int.reduceLE, Int.reduceEq, reduceCtorEq, Int.natCast_zero, Int.natCast_one, Int.cast_ofNat_Int, Bool.not_not, false_eq_decide, true_eq_decide, hread0, hreadk, read_cons0, read_consk, astore_h0, astore_hk, hget0, hgetk, hset0, hsetk, hlen, hcat, Nat.add_assoc, Nat.add_zero, Nat.zero_add, List.length_append, and_true, true_and, AV.flat, gq, get_app gq, read_get gq, read_app gq, hwo, one_solid hwo, one_cells hwo, *, -hK, -ow, -kJ, -hJ1, -ht0, -hmc, -hfc, -vc, -dl, -hacl, -back, -hf, -htot] | refine WC.call (vc _) ?_ | with_reducible refine IfB_dec (fun h => ?_) (fun h => ?_) | with_reducible refine Guard_dec (fun h => ?_) (fun h => ?_) | with_reducible refine Guard_ndec (fun h => ?_) (fun h => ?_) | with_reducible refine Guard_not (fun h => ?_) (fun h => ?_) | with_reducible refine IfB_ndec (fun h => ?_) (fun h => ?_) | with_reducible refine IfB_not (fun h => ?_) (fun h => ?_) | with_reducible refine Guard_split (fun h => ?_) (fun h => ?_) | with_reducible refine IfB_split (fun h => ?_) (fun h => ?_))
  refine append1_enc (E := Enc.str) (x := s) ow rfl se22 az9 td9 tk22 rfl rfl (by decide) (by show (acc.length + 1) * 17 ≤ _; omega) hJ1 ?_
  intro v5 H5 o5 k5 hn5
  have hv5 := o5.one
  have gq5 := k5.get gq (fun e => by have := ow.ge e; omega)
  have hl5 := k5.len
  have o5' : OwnE Enc.str (H.length + 1) (List.set H5 H.length ⟨[Enc.str.lst oc2.t, Enc.str.lst oc2.k], 0, .full⟩) v5 (acc ++ [s]) := own_same o5 fun b hb => List.getElem?_set_ne fun e => by have := o5.ge hb; omega
  have kF : Keep none H (List.set H5 H.length ⟨[Enc.str.lst oc2.t, Enc.str.lst oc2.k], 0, .full⟩) := ⟨by rw [List.length_set]; omega, fun b hb _ => by rw [List.getElem?_set_ne (by omega), k5.at_ b (by omega) (fun e => by have := ow.ge e; omega)]; exact kJ.at_ b hb (by simp)⟩
  repeat' (first | simp only [go_sem, Nat.reduceLT, Nat.reduceEqDiff, Nat.reduceAdd, Nat.reduceMul, Nat.reduceSub, Nat.reduceLeDiff, Int.reduceToNat, Int.reduceNeg, Int.reduceLT, Int.reduceLE, Int.reduceEq, reduceCtorEq, Int.natCast_zero, Int.natCast_one, Int.cast_ofNat_Int, Bool.not_not, false_eq_decide, true_eq_decide, hread0, hreadk, read_cons0, read_consk, astore_h0, astore_hk, hget0, hgetk, hset0, hsetk, hlen, hcat, Nat.add_assoc, Nat.add_zero, Nat.zero_add, List.length_append, and_true, true_and, AV.flat, gq5, get_app gq5, read_get gq5, read_app gq5, gq5, get_app gq5, read_get gq5, read_app gq5, astore_get gq5, astore_app gq5, get_set gq5, get_set_app gq5, read_set gq5, read_set_app gq5, astore_set gq5, astore_set_app gq5, List.set_set, hget0s, hgetks, hread0s, hreadks, List.length_set, hv5, one_solid hv5, one_cells hv5, *, -hK, -ow, -kJ, -hJ1, -ht0, -hmc, -hfc, -vc, -dl, -hacl, -back, -hf, -htot, -o5, -k5, -hn5, -hl5, -kF] | refine WC.call (dl _) ?_ | with_reducible refine IfB_dec (fun h => ?_) (fun h => ?_) | with_reducible refine Guard_dec (fun h => ?_) (fun h => ?_) | with_reducible refine Guard_ndec (fun h => ?_) (fun h => ?_) | with_reducible refine Guard_not (fun h => ?_) (fun h => ?_) | with_reducible refine IfB_ndec (fun h => ?_) (fun h => ?_) | with_reducible refine IfB_not (fun h => ?_) (fun h => ?_) | with_reducible refine Guard_split (fun h => ?_) (fun h => ?_) | with_reducible refine IfB_split (fun h => ?_) (fun h => ?_))
  exact back _ _ v5 oc2 rfl (by (repeat (first | exact hs | refine hA _ _ _ (by decide) ?_))) (by simp only [go_sem, Nat.reduceLT, Nat.reduceEqDiff, Nat.reduceAdd, Nat.reduceMul, Nat.reduceSub, Nat.reduceLeDiff, Int.reduceToNat, Int.reduceNeg, Int.reduceLT, Int.reduceLE, Int.reduceEq, reduceCtorEq]) o5' (List.getElem?_set_self (by omega)) kF (by rw [List.length_set]; omega)
end Go.Proofs.Ytakllaigpjbgdaa
