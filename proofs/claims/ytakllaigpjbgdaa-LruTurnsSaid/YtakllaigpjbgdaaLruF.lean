import Derived.Test.YtakllaigpjbgdaaLruE
set_option linter.unusedSimpArgs false
set_option linter.unusedVariables false
set_option maxRecDepth 100000
set_option maxHeartbeats 4000000
namespace Go.Proofs.Ytakllaigpjbgdaa
open Go Go.Proofs Go.Proofs.PI
theorem vs_at {X : Heap} {b : Nat} {cs : List AV} {sz : Nat} {st : St} (hb : X[b]? = some ⟨cs, sz, st⟩) (hal : st.alive = true) (hl : cs.length = 1 * sz) : Vs X (.sl b 0 1 none) sz 1 cs :=
  ⟨hl, .inr (.inr ⟨b, 0, none, _, rfl, by simp, hb, hal, fun _ => rfl, by simp; omega, by rw [Nat.one_mul] at hl ⊢; rw [List.drop_zero, ← hl, List.take_length]⟩)⟩
theorem All_spec (o : Ord) (hf : o.fit) (H : Heap) : WC Try.prog 19 [o.av] H fun r H' => r = .tup [Enc.str.lst (allO o), .int .i64 (ordE o)] ∧ H' = H := by
  refine WC_val fun K hK => ?_
  have ck := fun J => check_spec o hf J
  have tw := fun J => twin_own o hf J
  by_cases hm : o.may
  rotate_left
  · rw [ordE_bad hm] at ck hK
    rw [show allO o = [] from if_neg hm] at hK
    unfold Ord.av at *
    refine WC_of_body hT Try.func19 rfl (by simp [Try.f19]) (by simp [Try.f19]) (wx_sound hT _ ?_)
    simp only [Try.f19]
    repeat' (first | simp only [go_sem, Nat.reduceLT, Nat.reduceEqDiff, Nat.reduceAdd, Nat.reduceMul, Nat.reduceSub, Nat.reduceLeDiff, Int.reduceToNat, Int.reduceNeg, Int.reduceLT, Int.reduceLE, Int.reduceEq, reduceCtorEq, Int.natCast_zero, Int.natCast_one, Int.cast_ofNat_Int, Bool.not_not, false_eq_decide, true_eq_decide, hread0, hreadk, read_cons0, read_consk, astore_h0, astore_hk, hget0, hgetk, hset0, hsetk, hlen, hcat, Nat.add_assoc, Nat.add_zero, Nat.zero_add, List.length_append, and_true, true_and, AV.flat, *, -hK, -ck, -tw, -hm, -hf] | refine WC.call (ck _) ?_ | with_reducible refine IfB_dec (fun h => ?_) (fun h => ?_) | with_reducible refine Guard_dec (fun h => ?_) (fun h => ?_) | with_reducible refine Guard_ndec (fun h => ?_) (fun h => ?_) | with_reducible refine Guard_not (fun h => ?_) (fun h => ?_) | with_reducible refine IfB_ndec (fun h => ?_) (fun h => ?_) | with_reducible refine IfB_not (fun h => ?_) (fun h => ?_) | with_reducible refine Guard_split (fun h => ?_) (fun h => ?_) | with_reducible refine IfB_split (fun h => ?_) (fun h => ?_))
    exact hK _ _ (Thaw.tup_row ⟨.nils, .int _ _, trivial⟩) (Keep.app _ _ _)
  rw [ordE_ok hm] at ck hK
  rw [show allO o = allL (tot o) o from if_pos hm] at hK
  have htot : tot o ≤ 256 := hm.1
  unfold Ord.av at *
  refine WC_of_body hT Try.func19 rfl (by simp [Try.f19]) (by simp [Try.f19]) (wx_sound hT _ ?_)
  simp only [Try.f19]
  repeat' (first | simp only [go_sem, Nat.reduceLT, Nat.reduceEqDiff, Nat.reduceAdd, Nat.reduceMul, Nat.reduceSub, Nat.reduceLeDiff, Int.reduceToNat, Int.reduceNeg, Int.reduceLT, Int.reduceLE, Int.reduceEq, reduceCtorEq, Int.natCast_zero, Int.natCast_one, Int.cast_ofNat_Int, Bool.not_not, false_eq_decide, true_eq_decide, hread0, hreadk, read_cons0, read_consk, astore_h0, astore_hk, hget0, hgetk, hset0, hsetk, hlen, hcat, Nat.add_assoc, Nat.add_zero, Nat.zero_add, List.length_append, and_true, true_and, AV.flat, *, -hK, -ck, -tw, -hm, -hf, -htot] | refine WC.call (ck _) ?_ | with_reducible refine IfB_dec (fun h => ?_) (fun h => ?_) | with_reducible refine Guard_dec (fun h => ?_) (fun h => ?_) | with_reducible refine Guard_ndec (fun h => ?_) (fun h => ?_) | with_reducible refine Guard_not (fun h => ?_) (fun h => ?_) | with_reducible refine IfB_ndec (fun h => ?_) (fun h => ?_) | with_reducible refine IfB_not (fun h => ?_) (fun h => ?_) | with_reducible refine Guard_split (fun h => ?_) (fun h => ?_) | with_reducible refine IfB_split (fun h => ?_) (fun h => ?_))
  refine (tw _).mono ?_
  rintro _ H1 ⟨⟨vt, vk, rfl, o1, o2, hdis⟩, k1⟩
  clear ck tw
  have hl1 : H.length + 1 ≤ H1.length := by have := k1.len; simpa using this
  have hv1 := o1.one
  have hv2 := o2.one
  have x : OO none (H.length + 1) (H1 ++ [(⟨[vt, vk], 0, .full⟩ : Blk)]) H1.length o vt vk := ⟨by simp, (Own.mono o1 (by simp)).keep0 (Keep.app _ _ _), (Own.mono o2 (by simp)).keep0 (Keep.app _ _ _), fun e => by have := o1.lt e; omega, fun e => by have := o2.lt e; omega, hdis, by simp; omega, fun b hb => by cases hb⟩
  have kH : Keep none H (H1 ++ [(⟨[vt, vk], 0, .full⟩ : Blk)]) := ((Keep.app none H _).trans k1).trans (Keep.app _ _ _)
  have hvl := victim_lent x hf
  have gq := x.bq
  repeat' (first | simp only [go_sem, Nat.reduceLT, Nat.reduceEqDiff, Nat.reduceAdd, Nat.reduceMul, Nat.reduceSub, Nat.reduceLeDiff, Int.reduceToNat, Int.reduceNeg, Int.reduceLT, Int.reduceLE, Int.reduceEq, reduceCtorEq, Int.natCast_zero, Int.natCast_one, Int.cast_ofNat_Int, Bool.not_not, false_eq_decide, true_eq_decide, hread0, hreadk, read_cons0, read_consk, astore_h0, astore_hk, hget0, hgetk, hset0, hsetk, hlen, hcat, Nat.add_assoc, Nat.add_zero, Nat.zero_add, List.length_append, and_true, true_and, AV.flat, hv1, one_solid hv1, one_cells hv1, hv2, one_solid hv2, one_cells hv2, gq, get_app gq, read_get gq, read_app gq, *, -hK, -x, -kH, -hvl, -o1, -o2, -hdis, -k1, -hl1, -hm, -hf, -htot] | refine WC.call (hvl) ?_ | with_reducible refine IfB_dec (fun h => ?_) (fun h => ?_) | with_reducible refine Guard_dec (fun h => ?_) (fun h => ?_) | with_reducible refine Guard_ndec (fun h => ?_) (fun h => ?_) | with_reducible refine Guard_not (fun h => ?_) (fun h => ?_) | with_reducible refine IfB_ndec (fun h => ?_) (fun h => ?_) | with_reducible refine IfB_not (fun h => ?_) (fun h => ?_) | with_reducible refine Guard_split (fun h => ?_) (fun h => ?_) | with_reducible refine IfB_split (fun h => ?_) (fun h => ?_))
  generalize hJ : (H1 ++ [(⟨[vt, vk], 0, .full⟩ : Blk)] : Heap) = J0 at *
  have hqH : H.length ≤ H1.length := by omega
  generalize H1.length = q at *
  clear hJ o1 o2 hdis k1 hl1 hvl gq
  refine WX_loopS [6] (fun kn fr' J => ∃ (oc : Ord) (acc : List (List UInt8)) (w vt vk : AV), kn = tot oc ∧ fr'.get 5 = w ∧ fr'.get 7 = .str (vicO oc).1 ∧ fr'.get 8 = .bool (vicO oc).2 ∧ OwnE Enc.str (H.length + 1) J w acc ∧ OO w.blk (H.length + 1) J q oc vt vk ∧ Keep none H J ∧ acc ++ allL (tot oc) oc = allL (tot o) o ∧ tot oc ≤ 256) (tot o) ⟨o, [], .nils, vt, vk, rfl, by simp only [go_sem, Nat.reduceLT, Nat.reduceEqDiff, Nat.reduceAdd, Nat.reduceMul, Nat.reduceSub, Nat.reduceLeDiff, Int.reduceToNat, Int.reduceNeg, Int.reduceLT, Int.reduceLE, Int.reduceEq, reduceCtorEq], by simp only [go_sem, Nat.reduceLT, Nat.reduceEqDiff, Nat.reduceAdd, Nat.reduceMul, Nat.reduceSub, Nat.reduceLeDiff, Int.reduceToNat, Int.reduceNeg, Int.reduceLT, Int.reduceLE, Int.reduceEq, reduceCtorEq], by simp only [go_sem, Nat.reduceLT, Nat.reduceEqDiff, Nat.reduceAdd, Nat.reduceMul, Nat.reduceSub, Nat.reduceLeDiff, Int.reduceToNat, Int.reduceNeg, Int.reduceLT, Int.reduceLE, Int.reduceEq, reduceCtorEq], OwnE.nils _ _ _, x, kH, rfl, htot⟩ ?_
  clear x kH hv1 hv2
  rintro kn fr' J A R hA hs hg hR ⟨oc, acc, w, vt, vk, rfl, f5, f7, f8, ow, x, kJ, hacc, htc⟩
  have s6 := hg 6 (by decide)
  simp only [Fr.get_put, Fr.get_init, List.getD_cons_zero, List.getD_cons_succ, Nat.reduceEqDiff, if_true, if_false] at s6
  refine wx_sound hT _ ?_
  have hwo := ow.one
  cases hv : (vicO oc).2 with
  | false =>
    rw [hv] at f8
    have hal : allL (tot oc) oc = [] := by
      cases htn : tot oc with
      | zero => rfl
      | succ n => unfold allL; rw [if_neg (by rw [hv]; decide)]
    rw [hal, List.append_nil] at hacc
    rw [hacc] at ow
    repeat' (first | simp only [go_sem, Nat.reduceLT, Nat.reduceEqDiff, Nat.reduceAdd, Nat.reduceMul, Nat.reduceSub, Nat.reduceLeDiff, Int.reduceToNat, Int.reduceNeg, Int.reduceLT, Int.reduceLE, Int.reduceEq, reduceCtorEq, Int.natCast_zero, Int.natCast_one, Int.cast_ofNat_Int, Bool.not_not, false_eq_decide, true_eq_decide, hread0, hreadk, read_cons0, read_consk, astore_h0, astore_hk, hget0, hgetk, hset0, hsetk, hlen, hcat, Nat.add_assoc, Nat.add_zero, Nat.zero_add, List.length_append, and_true, true_and, AV.flat, hwo, one_solid hwo, one_cells hwo, *, -hK, -ow, -x, -kJ, -hacc, -htc, -hv, -hal, -hm, -hf, -htot] | with_reducible refine IfB_dec (fun h => ?_) (fun h => ?_) | with_reducible refine Guard_dec (fun h => ?_) (fun h => ?_) | with_reducible refine Guard_ndec (fun h => ?_) (fun h => ?_) | with_reducible refine Guard_not (fun h => ?_) (fun h => ?_) | with_reducible refine IfB_ndec (fun h => ?_) (fun h => ?_) | with_reducible refine IfB_not (fun h => ?_) (fun h => ?_) | with_reducible refine Guard_split (fun h => ?_) (fun h => ?_) | with_reducible refine IfB_split (fun h => ?_) (fun h => ?_))
    exact hK _ _ (Thaw.tup_row ⟨OwnE.thaw (E := Enc.str) (Own.mono ow (m' := H.length) (by omega)) (by decide), .int _ _, trivial⟩) kJ
  | true =>
  rw [hv] at f8
  have htp := vic_tot hv
  have hmem := vic_some hv
  have htk := takeO_tot hmem
  have hal : allL (tot oc) oc = (vicO oc).1 :: allL (tot (levelO (takeO oc (vicO oc).1))) (levelO (takeO oc (vicO oc).1)) := by
    rw [levelO_tot, htk]
    obtain ⟨n, hn⟩ : ∃ n, tot oc = n + 1 := ⟨tot oc - 1, by omega⟩
    rw [hn, allL, if_pos hv, Nat.add_sub_cancel]
  have hacl : acc.length ≤ 256 := by
    have h1 := congrArg List.length hacc
    rw [List.length_append] at h1
    have := allL_len (tot o) o
    omega
  have back : ∀ fr2 J2 w2 vt2 vk2 oc2, oc2 = levelO (takeO oc (vicO oc).1) → A fr2 → fr2.get 5 = w2 → fr2.get 7 = .str (vicO oc2).1 → fr2.get 8 = .bool (vicO oc2).2 → OwnE Enc.str (H.length + 1) J2 w2 (acc ++ [(vicO oc).1]) → OO w2.blk (H.length + 1) J2 q oc2 vt2 vk2 → Keep none H J2 → R fr2 J2 := fun fr2 J2 w2 vt2 vk2 oc2 he ha q1 q2 q3 q4 q5 q6 => by
    subst he
    refine hR fr2 J2 ha (tot (levelO (takeO oc (vicO oc).1))) (by rw [levelO_tot, htk]; omega) ⟨_, _, w2, vt2, vk2, rfl, q1, q2, q3, q4, q5, q6, ?_, by rw [levelO_tot, htk]; omega⟩
    rw [List.append_assoc, List.singleton_append, ← hal, hacc]
  clear hR hal hacc
  have hfc : oc.fit := ⟨by unfold tot at htc; omega, by unfold tot at htc; omega⟩
  have htl := takeO_len oc (vicO oc).1
  generalize (vicO oc).1 = s at *
  clear hv
  repeat' (first | simp only [go_sem, Nat.reduceLT, Nat.reduceEqDiff, Nat.reduceAdd, Nat.reduceMul, Nat.reduceSub, Nat.reduceLeDiff, Int.reduceToNat, Int.reduceNeg, Int.reduceLT, Int.reduceLE, Int.reduceEq, reduceCtorEq, Int.natCast_zero, Int.natCast_one, Int.cast_ofNat_Int, Bool.not_not, false_eq_decide, true_eq_decide, hread0, hreadk, read_cons0, read_consk, astore_h0, astore_hk, hget0, hgetk, hset0, hsetk, hlen, hcat, Nat.add_assoc, Nat.add_zero, Nat.zero_add, List.length_append, and_true, true_and, AV.flat, hwo, one_solid hwo, one_cells hwo, *, -hK, -ow, -x, -kJ, -htc, -hm, -hf, -htot, -back, -htp, -hmem, -htk, -hacl, -hfc, -htl] | with_reducible refine IfB_dec (fun h => ?_) (fun h => ?_) | with_reducible refine Guard_dec (fun h => ?_) (fun h => ?_) | with_reducible refine Guard_ndec (fun h => ?_) (fun h => ?_) | with_reducible refine Guard_not (fun h => ?_) (fun h => ?_) | with_reducible refine IfB_ndec (fun h => ?_) (fun h => ?_) | with_reducible refine IfB_not (fun h => ?_) (fun h => ?_) | with_reducible refine Guard_split (fun h => ?_) (fun h => ?_) | with_reducible refine IfB_split (fun h => ?_) (fun h => ?_))
  have hmJ := x.le
  refine append_own (k := 1) (xs := Enc.str.cells s) (ow.keep0 (Keep.app none J _)) se22 az9 td9 (asrc_sl tk22 (Vs.sl (vs_at (st := .full) (by rw [hget0]; rfl) rfl rfl))) rfl (by decide) (by rw [Enc.row_length]; show (acc.length * 1 + 1) * 16 ≤ _; omega) (by rw [Enc.row_length]; show acc.length * 1 + 1 ≤ _; omega) (by simp; omega) ?_
  intro w2 J3 ow2 k3 hn3
  have o2 : OwnE Enc.str (H.length + 1) J3 w2 (acc ++ [s]) := by unfold OwnE; rw [Enc.row_append, Enc.row_one]; exact ow2
  have hw2 := ow2.one
  have x2 : OO w2.blk (H.length + 1) J3 q oc vt vk := (x.keep (Keep.app none J [(⟨[.str s], 1, .full⟩ : Blk)])).app k3 hn3 (fun b hb => o2.lt hb)
  have kJ3 : Keep none H J3 := (kJ.trans (Keep.app _ _ _)).via k3 (fun b hb => by have := ow.ge hb; omega)
  clear ow2 k3 hn3 ow x
  have tk := take_own x2 hfc s
  repeat' (first | simp only [go_sem, Nat.reduceLT, Nat.reduceEqDiff, Nat.reduceAdd, Nat.reduceMul, Nat.reduceSub, Nat.reduceLeDiff, Int.reduceToNat, Int.reduceNeg, Int.reduceLT, Int.reduceLE, Int.reduceEq, reduceCtorEq, Int.natCast_zero, Int.natCast_one, Int.cast_ofNat_Int, Bool.not_not, false_eq_decide, true_eq_decide, hread0, hreadk, read_cons0, read_consk, astore_h0, astore_hk, hget0, hgetk, hset0, hsetk, hlen, hcat, Nat.add_assoc, Nat.add_zero, Nat.zero_add, List.length_append, and_true, true_and, AV.flat, hw2, one_solid hw2, one_cells hw2, *, -hK, -kJ, -htc, -hm, -hf, -htot, -back, -htp, -hmem, -htk, -hacl, -hfc, -htl, -o2, -x2, -kJ3, -tk, -hmJ] | with_reducible refine IfB_dec (fun h => ?_) (fun h => ?_) | with_reducible refine Guard_dec (fun h => ?_) (fun h => ?_) | with_reducible refine Guard_ndec (fun h => ?_) (fun h => ?_) | with_reducible refine Guard_not (fun h => ?_) (fun h => ?_) | with_reducible refine IfB_ndec (fun h => ?_) (fun h => ?_) | with_reducible refine IfB_not (fun h => ?_) (fun h => ?_) | with_reducible refine Guard_split (fun h => ?_) (fun h => ?_) | with_reducible refine IfB_split (fun h => ?_) (fun h => ?_))
  refine tk.mono ?_
  rintro _ J4 ⟨rfl, ⟨v3, v4, x4⟩, l4⟩
  clear tk
  have hf4 : (takeO oc s).fit := ⟨by have := hfc.1; omega, by have := hfc.2; omega⟩
  have lv := level_own x4 hf4 (by have := hfc.1; have := hfc.2; unfold tot at htc; omega)
  repeat' (first | simp only [go_sem, Nat.reduceLT, Nat.reduceEqDiff, Nat.reduceAdd, Nat.reduceMul, Nat.reduceSub, Nat.reduceLeDiff, Int.reduceToNat, Int.reduceNeg, Int.reduceLT, Int.reduceLE, Int.reduceEq, reduceCtorEq, Int.natCast_zero, Int.natCast_one, Int.cast_ofNat_Int, Bool.not_not, false_eq_decide, true_eq_decide, hread0, hreadk, read_cons0, read_consk, astore_h0, astore_hk, hget0, hgetk, hset0, hsetk, hlen, hcat, Nat.add_assoc, Nat.add_zero, Nat.zero_add, List.length_append, and_true, true_and, AV.flat, hw2, one_solid hw2, one_cells hw2, *, -hK, -kJ, -htc, -hm, -hf, -htot, -back, -htp, -hmem, -htk, -hacl, -hfc, -htl, -o2, -x2, -kJ3, -x4, -l4, -lv, -hf4, -hmJ] | with_reducible refine IfB_dec (fun h => ?_) (fun h => ?_) | with_reducible refine Guard_dec (fun h => ?_) (fun h => ?_) | with_reducible refine Guard_ndec (fun h => ?_) (fun h => ?_) | with_reducible refine Guard_not (fun h => ?_) (fun h => ?_) | with_reducible refine IfB_ndec (fun h => ?_) (fun h => ?_) | with_reducible refine IfB_not (fun h => ?_) (fun h => ?_) | with_reducible refine Guard_split (fun h => ?_) (fun h => ?_) | with_reducible refine IfB_split (fun h => ?_) (fun h => ?_))
  refine lv.mono ?_
  rintro _ J5 ⟨rfl, ⟨v5, v6, x5⟩, l5⟩
  clear lv
  have hl45 := l4.trans l5
  have o5 : OwnE Enc.str (H.length + 1) J5 w2 (acc ++ [s]) := own_same o2 fun b hb => hl45.zat b hb (o2.lt hb) (x2.zt b hb).2.2.2
  have kJ5 : Keep none H J5 := ⟨Nat.le_trans kJ3.len hl45.len, fun b hb _ => by rw [hl45.at_ b (by omega) (by omega)]; exact kJ3.at_ b hb (by simp)⟩
  have hf5 : (levelO (takeO oc s)).fit := by
    have h1 := levelO_tot (takeO oc s)
    have h2 := hf4.1
    have h3 : tot (takeO oc s) ≤ 256 := by omega
    constructor
    · show (levelO (takeO oc s)).t.length ≤ 1000; unfold tot at h1 h3; omega
    · show (levelO (takeO oc s)).k.length ≤ 1000; unfold tot at h1 h3; omega
  have hvl := victim_lent x5 hf5
  have hv5 := x5.ot.one
  have hv6 := x5.ok.one
  have gq := x5.bq
  repeat' (first | simp only [go_sem, Nat.reduceLT, Nat.reduceEqDiff, Nat.reduceAdd, Nat.reduceMul, Nat.reduceSub, Nat.reduceLeDiff, Int.reduceToNat, Int.reduceNeg, Int.reduceLT, Int.reduceLE, Int.reduceEq, reduceCtorEq, Int.natCast_zero, Int.natCast_one, Int.cast_ofNat_Int, Bool.not_not, false_eq_decide, true_eq_decide, hread0, hreadk, read_cons0, read_consk, astore_h0, astore_hk, hget0, hgetk, hset0, hsetk, hlen, hcat, Nat.add_assoc, Nat.add_zero, Nat.zero_add, List.length_append, and_true, true_and, AV.flat, hw2, one_solid hw2, one_cells hw2, hv5, one_solid hv5, one_cells hv5, hv6, one_solid hv6, one_cells hv6, gq, get_app gq, read_get gq, read_app gq, *, -hK, -kJ, -htc, -hm, -hf, -htot, -back, -htp, -hmem, -htk, -hacl, -hfc, -htl, -o2, -x2, -kJ3, -x4, -l4, -hf4, -x5, -l5, -hl45, -o5, -kJ5, -hf5, -hvl, -hmJ] | refine WC.call (hvl) ?_ | with_reducible refine IfB_dec (fun h => ?_) (fun h => ?_) | with_reducible refine Guard_dec (fun h => ?_) (fun h => ?_) | with_reducible refine Guard_ndec (fun h => ?_) (fun h => ?_) | with_reducible refine Guard_not (fun h => ?_) (fun h => ?_) | with_reducible refine IfB_ndec (fun h => ?_) (fun h => ?_) | with_reducible refine IfB_not (fun h => ?_) (fun h => ?_) | with_reducible refine Guard_split (fun h => ?_) (fun h => ?_) | with_reducible refine IfB_split (fun h => ?_) (fun h => ?_))
  exact back _ _ w2 v5 v6 _ rfl (by (repeat (first | exact hs | refine hA _ _ _ (by decide) ?_))) (by simp only [go_sem, Nat.reduceLT, Nat.reduceEqDiff, Nat.reduceAdd, Nat.reduceMul, Nat.reduceSub, Nat.reduceLeDiff, Int.reduceToNat, Int.reduceNeg, Int.reduceLT, Int.reduceLE, Int.reduceEq, reduceCtorEq]) (by simp only [go_sem, Nat.reduceLT, Nat.reduceEqDiff, Nat.reduceAdd, Nat.reduceMul, Nat.reduceSub, Nat.reduceLeDiff, Int.reduceToNat, Int.reduceNeg, Int.reduceLT, Int.reduceLE, Int.reduceEq, reduceCtorEq]) (by simp only [go_sem, Nat.reduceLT, Nat.reduceEqDiff, Nat.reduceAdd, Nat.reduceMul, Nat.reduceSub, Nat.reduceLeDiff, Int.reduceToNat, Int.reduceNeg, Int.reduceLT, Int.reduceLE, Int.reduceEq, reduceCtorEq]) o5 x5 kJ5
end Go.Proofs.Ytakllaigpjbgdaa
