import Derived.Test.YtakllaigpjbgdaaLruT3
import Derived.Test.YtakllaigpjbgdaaLruWl
set_option linter.unusedSimpArgs false
set_option linter.unusedVariables false
set_option maxRecDepth 100000
set_option maxHeartbeats 4000000
namespace Go.Proofs.Ytakllaigpjbgdaa
open Go Go.Proofs Go.Proofs.PI
theorem rDel_spec (o : Ord) (hf : o.fit) (s : List UInt8) (H : Heap) : WC Try.prog 25 [o.av, .str s] H fun r H' => r = .tup [(delO o s).av, .int .i64 (hitE o s)] ∧ H' = H := by
  refine WC_val fun K hK => ?_
  have ak := fun J => rAsked_spec o hf s J
  have al := fun J => rAllK_spec o hf J
  have hkl : (keysO o).length ≤ 1000000 := by unfold keysO; rw [List.length_append]; have := hf.1; have := hf.2; omega
  have fd := fun J => rFind_spec (keysO o) s hkl J
  by_cases hE : askE o s = 0
  rotate_left
  · have hA : hitE o s = askE o s := by unfold hitE; rw [if_pos hE]
    rw [hA, show delO o s = ord0 by unfold delO; rw [if_neg (by rw [hA]; exact hE)]] at hK
    generalize askE o s = e at *
    unfold Ord.av at *
    refine WC_of_body hT Try.func25 rfl (by simp [Try.f25]) (by simp [Try.f25]) (wx_sound hT _ ?_)
    simp only [Try.f25]
    repeat' (first | simp only [go_sem, Nat.reduceLT, Nat.reduceEqDiff, Nat.reduceAdd, Nat.reduceMul, Nat.reduceSub, Nat.reduceLeDiff, Int.reduceToNat, Int.reduceNeg, Int.reduceLT, Int.reduceLE, Int.reduceEq, reduceCtorEq, Int.natCast_zero, Int.natCast_one, Int.cast_ofNat_Int, Bool.not_not, false_eq_decide, true_eq_decide, hread0, hreadk, read_cons0, read_consk, astore_h0, astore_hk, hget0, hgetk, hset0, hsetk, hlen, hcat, Nat.add_assoc, Nat.add_zero, Nat.zero_add, List.length_append, and_true, true_and, AV.flat, *, -hK, -ak, -al, -fd, -hf, -hkl, -hA] | refine WC.call (ak _) ?_ | with_reducible refine IfB_dec (fun h => ?_) (fun h => ?_) | with_reducible refine Guard_dec (fun h => ?_) (fun h => ?_) | with_reducible refine Guard_ndec (fun h => ?_) (fun h => ?_) | with_reducible refine Guard_not (fun h => ?_) (fun h => ?_) | with_reducible refine IfB_ndec (fun h => ?_) (fun h => ?_) | with_reducible refine IfB_not (fun h => ?_) (fun h => ?_) | with_reducible refine Guard_split (fun h => ?_) (fun h => ?_) | with_reducible refine IfB_split (fun h => ?_) (fun h => ?_))
    exact hK _ _ (Thaw.tup_row ⟨Thaw.agg_row ⟨.nils, .nils, trivial⟩, .int _ _, trivial⟩) (Keep.app _ _ _)
  rw [hE] at ak
  have hm := (askE_ok hE).1
  have hA0 : hitE o s = if inO o s = true then 0 else 6 := by unfold hitE; rw [if_neg (by rw [hE]; decide)]
  have hks : s ∈ keysO o ↔ inO o s = true := inO_mem.symm
  have ot := fun J => rOut_spec o hf s J
  have hot := outO_take (o := o) hm (s := s)
  have htl := takeO_len o s
  have hff := hf
  obtain ⟨hf1, hf2⟩ := hf
  unfold Ord.av at *
  generalize keysO o = L at *
  refine WC_of_body hT Try.func25 rfl (by simp [Try.f25]) (by simp [Try.f25]) (wx_sound hT _ ?_)
  simp only [Try.f25]
  repeat' (first | simp only [go_sem, Nat.reduceLT, Nat.reduceEqDiff, Nat.reduceAdd, Nat.reduceMul, Nat.reduceSub, Nat.reduceLeDiff, Int.reduceToNat, Int.reduceNeg, Int.reduceLT, Int.reduceLE, Int.reduceEq, reduceCtorEq, Int.natCast_zero, Int.natCast_one, Int.cast_ofNat_Int, Bool.not_not, false_eq_decide, true_eq_decide, hread0, hreadk, read_cons0, read_consk, astore_h0, astore_hk, hget0, hgetk, hset0, hsetk, hlen, hcat, Nat.add_assoc, Nat.add_zero, Nat.zero_add, List.length_append, and_true, true_and, AV.flat, *, -hK, -ak, -al, -fd, -hkl, -hE, -hA0, -hks, -hm, -ot, -hot, -htl, -hff, -hf1, -hf2] | refine WC.call (ak _) ?_ | refine WC.call (al _) ?_ | with_reducible refine IfB_dec (fun h => ?_) (fun h => ?_) | with_reducible refine Guard_dec (fun h => ?_) (fun h => ?_) | with_reducible refine Guard_ndec (fun h => ?_) (fun h => ?_) | with_reducible refine Guard_not (fun h => ?_) (fun h => ?_) | with_reducible refine IfB_ndec (fun h => ?_) (fun h => ?_) | with_reducible refine IfB_not (fun h => ?_) (fun h => ?_) | with_reducible refine Guard_split (fun h => ?_) (fun h => ?_) | with_reducible refine IfB_split (fun h => ?_) (fun h => ?_))
  refine (fd _).mono ?_
  rintro _ J9 ⟨⟨n, rfl, hn⟩, rfl⟩
  rcases hn with ⟨hmm, hn1, hn2⟩ | ⟨hmm, rfl⟩
  rotate_left
  · have hin : inO o s = false := by
      cases h : inO o s with
      | false => rfl
      | true => exact absurd (hks.2 h) hmm
    rw [hin, if_neg (by decide)] at hA0
    rw [hA0, show delO o s = ord0 by unfold delO; rw [if_neg (by rw [hA0]; decide)]] at hK
    clear hmm
    repeat' (first | simp only [go_sem, Nat.reduceLT, Nat.reduceEqDiff, Nat.reduceAdd, Nat.reduceMul, Nat.reduceSub, Nat.reduceLeDiff, Int.reduceToNat, Int.reduceNeg, Int.reduceLT, Int.reduceLE, Int.reduceEq, reduceCtorEq, Int.natCast_zero, Int.natCast_one, Int.cast_ofNat_Int, Bool.not_not, false_eq_decide, true_eq_decide, hread0, hreadk, read_cons0, read_consk, astore_h0, astore_hk, hget0, hgetk, hset0, hsetk, hlen, hcat, Nat.add_assoc, Nat.add_zero, Nat.zero_add, List.length_append, and_true, true_and, AV.flat, *, -hK, -ak, -al, -fd, -hkl, -hE, -hA0, -hks, -hm, -ot, -hot, -htl, -hff, -hf1, -hf2, -hin] | with_reducible refine IfB_dec (fun h => ?_) (fun h => ?_) | with_reducible refine Guard_dec (fun h => ?_) (fun h => ?_) | with_reducible refine Guard_ndec (fun h => ?_) (fun h => ?_) | with_reducible refine Guard_not (fun h => ?_) (fun h => ?_) | with_reducible refine IfB_ndec (fun h => ?_) (fun h => ?_) | with_reducible refine IfB_not (fun h => ?_) (fun h => ?_) | with_reducible refine Guard_split (fun h => ?_) (fun h => ?_) | with_reducible refine IfB_split (fun h => ?_) (fun h => ?_))
    exact hK _ _ (Thaw.tup_row ⟨Thaw.agg_row ⟨.nils, .nils, trivial⟩, .int _ _, trivial⟩) (Keep.app _ _ _)
  rw [hks.1 hmm, if_pos rfl] at hA0
  rw [hot hmm] at ot
  rw [hA0, show delO o s = levelO (takeO o s) by unfold delO; rw [if_pos hA0]] at hK
  clear hmm hot
  generalize takeO o s = o1 at *
  obtain ⟨htl1, htl2⟩ := htl
  have lv := fun J => rLevel_spec o1 (by omega) J
  unfold Ord.av at lv
  generalize levelO o1 = o2 at *
  repeat' (first | simp only [go_sem, Nat.reduceLT, Nat.reduceEqDiff, Nat.reduceAdd, Nat.reduceMul, Nat.reduceSub, Nat.reduceLeDiff, Int.reduceToNat, Int.reduceNeg, Int.reduceLT, Int.reduceLE, Int.reduceEq, reduceCtorEq, Int.natCast_zero, Int.natCast_one, Int.cast_ofNat_Int, Bool.not_not, false_eq_decide, true_eq_decide, hread0, hreadk, read_cons0, read_consk, astore_h0, astore_hk, hget0, hgetk, hset0, hsetk, hlen, hcat, Nat.add_assoc, Nat.add_zero, Nat.zero_add, List.length_append, and_true, true_and, AV.flat, *, -hK, -ak, -al, -fd, -hkl, -hE, -hA0, -hks, -hm, -ot, -lv, -htl1, -htl2, -hff, -hf1, -hf2] | refine WC.call (ot _) ?_ | refine WC.call (lv _) ?_ | with_reducible refine IfB_dec (fun h => ?_) (fun h => ?_) | with_reducible refine Guard_dec (fun h => ?_) (fun h => ?_) | with_reducible refine Guard_ndec (fun h => ?_) (fun h => ?_) | with_reducible refine Guard_not (fun h => ?_) (fun h => ?_) | with_reducible refine IfB_ndec (fun h => ?_) (fun h => ?_) | with_reducible refine IfB_not (fun h => ?_) (fun h => ?_) | with_reducible refine Guard_split (fun h => ?_) (fun h => ?_) | with_reducible refine IfB_split (fun h => ?_) (fun h => ?_))
  exact hK _ _ (Thaw.tup_row ⟨Thaw.agg_row ⟨.atom _ rfl, .atom _ rfl, trivial⟩, .int _ _, trivial⟩) (Keep.app _ _ _)
theorem rHit_spec (o : Ord) (hf : o.fit) (s : List UInt8) (H : Heap) : WC Try.prog 24 [o.av, .str s] H fun r H' => r = .tup [(hitO o s).av, .int .i64 (hitE o s)] ∧ H' = H := by
  refine WC_val fun K hK => ?_
  have ak := fun J => rAsked_spec o hf s J
  have al := fun J => rAllK_spec o hf J
  have hkl : (keysO o).length ≤ 1000000 := by unfold keysO; rw [List.length_append]; have := hf.1; have := hf.2; omega
  have fd := fun J => rFind_spec (keysO o) s hkl J
  by_cases hE : askE o s = 0
  rotate_left
  · have hA : hitE o s = askE o s := by unfold hitE; rw [if_pos hE]
    rw [hA, show hitO o s = ord0 by unfold hitO; rw [if_neg (by rw [hA]; exact hE)]] at hK
    generalize askE o s = e at *
    unfold Ord.av at *
    refine WC_of_body hT Try.func24 rfl (by simp [Try.f24]) (by simp [Try.f24]) (wx_sound hT _ ?_)
    simp only [Try.f24]
    repeat' (first | simp only [go_sem, Nat.reduceLT, Nat.reduceEqDiff, Nat.reduceAdd, Nat.reduceMul, Nat.reduceSub, Nat.reduceLeDiff, Int.reduceToNat, Int.reduceNeg, Int.reduceLT, Int.reduceLE, Int.reduceEq, reduceCtorEq, Int.natCast_zero, Int.natCast_one, Int.cast_ofNat_Int, Bool.not_not, false_eq_decide, true_eq_decide, hread0, hreadk, read_cons0, read_consk, astore_h0, astore_hk, hget0, hgetk, hset0, hsetk, hlen, hcat, Nat.add_assoc, Nat.add_zero, Nat.zero_add, List.length_append, and_true, true_and, AV.flat, *, -hK, -ak, -al, -fd, -hf, -hkl, -hA] | refine WC.call (ak _) ?_ | with_reducible refine IfB_dec (fun h => ?_) (fun h => ?_) | with_reducible refine Guard_dec (fun h => ?_) (fun h => ?_) | with_reducible refine Guard_ndec (fun h => ?_) (fun h => ?_) | with_reducible refine Guard_not (fun h => ?_) (fun h => ?_) | with_reducible refine IfB_ndec (fun h => ?_) (fun h => ?_) | with_reducible refine IfB_not (fun h => ?_) (fun h => ?_) | with_reducible refine Guard_split (fun h => ?_) (fun h => ?_) | with_reducible refine IfB_split (fun h => ?_) (fun h => ?_))
    exact hK _ _ (Thaw.tup_row ⟨Thaw.agg_row ⟨.nils, .nils, trivial⟩, .int _ _, trivial⟩) (Keep.app _ _ _)
  rw [hE] at ak
  have hm := (askE_ok hE).1
  have hA0 : hitE o s = if inO o s = true then 0 else 6 := by unfold hitE; rw [if_neg (by rw [hE]; decide)]
  have hks : s ∈ keysO o ↔ inO o s = true := inO_mem.symm
  have ot := fun J => rOut_spec o hf s J
  have hot := outO_take (o := o) hm (s := s)
  have htl := takeO_len o s
  have hff := hf
  obtain ⟨hf1, hf2⟩ := hf
  unfold Ord.av at *
  generalize keysO o = L at *
  refine WC_of_body hT Try.func24 rfl (by simp [Try.f24]) (by simp [Try.f24]) (wx_sound hT _ ?_)
  simp only [Try.f24]
  repeat' (first | simp only [go_sem, Nat.reduceLT, Nat.reduceEqDiff, Nat.reduceAdd, Nat.reduceMul, Nat.reduceSub, Nat.reduceLeDiff, Int.reduceToNat, Int.reduceNeg, Int.reduceLT, Int.reduceLE, Int.reduceEq, reduceCtorEq, Int.natCast_zero, Int.natCast_one, Int.cast_ofNat_Int, Bool.not_not, false_eq_decide, true_eq_decide, hread0, hreadk, read_cons0, read_consk, astore_h0, astore_hk, hget0, hgetk, hset0, hsetk, hlen, hcat, Nat.add_assoc, Nat.add_zero, Nat.zero_add, List.length_append, and_true, true_and, AV.flat, *, -hK, -ak, -al, -fd, -hkl, -hE, -hA0, -hks, -hm, -ot, -hot, -htl, -hff, -hf1, -hf2] | refine WC.call (ak _) ?_ | refine WC.call (al _) ?_ | with_reducible refine IfB_dec (fun h => ?_) (fun h => ?_) | with_reducible refine Guard_dec (fun h => ?_) (fun h => ?_) | with_reducible refine Guard_ndec (fun h => ?_) (fun h => ?_) | with_reducible refine Guard_not (fun h => ?_) (fun h => ?_) | with_reducible refine IfB_ndec (fun h => ?_) (fun h => ?_) | with_reducible refine IfB_not (fun h => ?_) (fun h => ?_) | with_reducible refine Guard_split (fun h => ?_) (fun h => ?_) | with_reducible refine IfB_split (fun h => ?_) (fun h => ?_))
  refine (fd _).mono ?_
  rintro _ J9 ⟨⟨n, rfl, hn⟩, rfl⟩
  rcases hn with ⟨hmm, hn1, hn2⟩ | ⟨hmm, rfl⟩
  rotate_left
  · have hin : inO o s = false := by
      cases h : inO o s with
      | false => rfl
      | true => exact absurd (hks.2 h) hmm
    rw [hin, if_neg (by decide)] at hA0
    rw [hA0, show hitO o s = ord0 by unfold hitO; rw [if_neg (by rw [hA0]; decide)]] at hK
    clear hmm
    repeat' (first | simp only [go_sem, Nat.reduceLT, Nat.reduceEqDiff, Nat.reduceAdd, Nat.reduceMul, Nat.reduceSub, Nat.reduceLeDiff, Int.reduceToNat, Int.reduceNeg, Int.reduceLT, Int.reduceLE, Int.reduceEq, reduceCtorEq, Int.natCast_zero, Int.natCast_one, Int.cast_ofNat_Int, Bool.not_not, false_eq_decide, true_eq_decide, hread0, hreadk, read_cons0, read_consk, astore_h0, astore_hk, hget0, hgetk, hset0, hsetk, hlen, hcat, Nat.add_assoc, Nat.add_zero, Nat.zero_add, List.length_append, and_true, true_and, AV.flat, *, -hK, -ak, -al, -fd, -hkl, -hE, -hA0, -hks, -hm, -ot, -hot, -htl, -hff, -hf1, -hf2, -hin] | with_reducible refine IfB_dec (fun h => ?_) (fun h => ?_) | with_reducible refine Guard_dec (fun h => ?_) (fun h => ?_) | with_reducible refine Guard_ndec (fun h => ?_) (fun h => ?_) | with_reducible refine Guard_not (fun h => ?_) (fun h => ?_) | with_reducible refine IfB_ndec (fun h => ?_) (fun h => ?_) | with_reducible refine IfB_not (fun h => ?_) (fun h => ?_) | with_reducible refine Guard_split (fun h => ?_) (fun h => ?_) | with_reducible refine IfB_split (fun h => ?_) (fun h => ?_))
    exact hK _ _ (Thaw.tup_row ⟨Thaw.agg_row ⟨.nils, .nils, trivial⟩, .int _ _, trivial⟩) (Keep.app _ _ _)
  rw [hks.1 hmm, if_pos rfl] at hA0
  rw [hot hmm] at ot
  rw [hA0, show hitO o s = levelO ⟨(takeO o s).t, s :: (takeO o s).k⟩ by unfold hitO; rw [if_pos hA0]] at hK
  clear hmm hot
  generalize takeO o s = o1 at *
  obtain ⟨htl1, htl2⟩ := htl
  have lv := fun J => rLevel_spec ⟨o1.t, s :: o1.k⟩ (by simp only [List.length_cons]; omega) J
  have fr := fun J => rFirst_spec s o1.k (by omega) J
  unfold Ord.av at lv
  simp only at lv
  generalize levelO ⟨o1.t, s :: o1.k⟩ = o2 at *
  generalize s :: o1.k = l2 at *
  repeat' (first | simp only [go_sem, Nat.reduceLT, Nat.reduceEqDiff, Nat.reduceAdd, Nat.reduceMul, Nat.reduceSub, Nat.reduceLeDiff, Int.reduceToNat, Int.reduceNeg, Int.reduceLT, Int.reduceLE, Int.reduceEq, reduceCtorEq, Int.natCast_zero, Int.natCast_one, Int.cast_ofNat_Int, Bool.not_not, false_eq_decide, true_eq_decide, hread0, hreadk, read_cons0, read_consk, astore_h0, astore_hk, hget0, hgetk, hset0, hsetk, hlen, hcat, Nat.add_assoc, Nat.add_zero, Nat.zero_add, List.length_append, and_true, true_and, AV.flat, *, -hK, -ak, -al, -fd, -hkl, -hE, -hA0, -hks, -hm, -ot, -lv, -fr, -htl1, -htl2, -hff, -hf1, -hf2] | refine WC.call (ot _) ?_ | with_reducible refine IfB_dec (fun h => ?_) (fun h => ?_) | with_reducible refine Guard_dec (fun h => ?_) (fun h => ?_) | with_reducible refine Guard_ndec (fun h => ?_) (fun h => ?_) | with_reducible refine Guard_not (fun h => ?_) (fun h => ?_) | with_reducible refine IfB_ndec (fun h => ?_) (fun h => ?_) | with_reducible refine IfB_not (fun h => ?_) (fun h => ?_) | with_reducible refine Guard_split (fun h => ?_) (fun h => ?_) | with_reducible refine IfB_split (fun h => ?_) (fun h => ?_))
  refine WX_rows hT hmix [(0, none), (1, none), (2, none), (3, none), (4, none), (5, some [true, true, true, false, false]), (6, none), (7, some [true, true, true, true, true, true, true]), (8, some [true, true, true, true, true, true, true, true]), (9, none)] (by kernel_rfl) ?_
  repeat' (first | simp only [go_sem, Nat.reduceLT, Nat.reduceEqDiff, Nat.reduceAdd, Nat.reduceMul, Nat.reduceSub, Nat.reduceLeDiff, Int.reduceToNat, Int.reduceNeg, Int.reduceLT, Int.reduceLE, Int.reduceEq, reduceCtorEq, Int.natCast_zero, Int.natCast_one, Int.cast_ofNat_Int, Bool.not_not, false_eq_decide, true_eq_decide, hread0, hreadk, read_cons0, read_consk, astore_h0, astore_hk, hget0, hgetk, hset0, hsetk, hlen, hcat, Nat.add_assoc, Nat.add_zero, Nat.zero_add, List.length_append, and_true, true_and, AV.flat, *, -hK, -ak, -al, -fd, -hkl, -hE, -hA0, -hks, -hm, -ot, -lv, -fr, -htl1, -htl2, -hff, -hf1, -hf2] | refine WC.call (fr _) ?_ | refine WC.call (lv _) ?_ | with_reducible refine IfB_dec (fun h => ?_) (fun h => ?_) | with_reducible refine Guard_dec (fun h => ?_) (fun h => ?_) | with_reducible refine Guard_ndec (fun h => ?_) (fun h => ?_) | with_reducible refine Guard_not (fun h => ?_) (fun h => ?_) | with_reducible refine IfB_ndec (fun h => ?_) (fun h => ?_) | with_reducible refine IfB_not (fun h => ?_) (fun h => ?_) | with_reducible refine Guard_split (fun h => ?_) (fun h => ?_) | with_reducible refine IfB_split (fun h => ?_) (fun h => ?_))
  exact hK _ _ (Thaw.tup_row ⟨Thaw.agg_row ⟨.atom _ rfl, .atom _ rfl, trivial⟩, .int _ _, trivial⟩) (Keep.app _ _ _)
theorem rVictim_spec (o : Ord) (hf : o.fit) (H : Heap) : WC Try.prog 26 [o.av] H fun r H' => r = .tup [.str (vicS o), .int .i64 (vicE o)] ∧ H' = H := by
  refine WC_val fun K hK => ?_
  have ck := fun J => rCheck_spec o hf J
  by_cases hm : o.may
  rotate_left
  · rw [ordE_bad hm] at ck
    rw [show vicS o = [] from if_neg hm, show vicE o = 8 from if_neg hm] at hK
    unfold Ord.av at *
    refine WC_of_body hT Try.func26 rfl (by simp [Try.f26]) (by simp [Try.f26]) (wx_sound hT _ ?_)
    simp only [Try.f26]
    repeat' (first | simp only [go_sem, Nat.reduceLT, Nat.reduceEqDiff, Nat.reduceAdd, Nat.reduceMul, Nat.reduceSub, Nat.reduceLeDiff, Int.reduceToNat, Int.reduceNeg, Int.reduceLT, Int.reduceLE, Int.reduceEq, reduceCtorEq, Int.natCast_zero, Int.natCast_one, Int.cast_ofNat_Int, Bool.not_not, false_eq_decide, true_eq_decide, hread0, hreadk, read_cons0, read_consk, astore_h0, astore_hk, hget0, hgetk, hset0, hsetk, hlen, hcat, Nat.add_assoc, Nat.add_zero, Nat.zero_add, List.length_append, and_true, true_and, AV.flat, *, -hK, -ck, -hm, -hf] | refine WC.call (ck _) ?_ | with_reducible refine IfB_dec (fun h => ?_) (fun h => ?_) | with_reducible refine Guard_dec (fun h => ?_) (fun h => ?_) | with_reducible refine Guard_ndec (fun h => ?_) (fun h => ?_) | with_reducible refine Guard_not (fun h => ?_) (fun h => ?_) | with_reducible refine IfB_ndec (fun h => ?_) (fun h => ?_) | with_reducible refine IfB_not (fun h => ?_) (fun h => ?_) | with_reducible refine Guard_split (fun h => ?_) (fun h => ?_) | with_reducible refine IfB_split (fun h => ?_) (fun h => ?_))
    exact hK _ _ (Thaw.tup_row ⟨.str _, .int _ _, trivial⟩) (Keep.app _ _ _)
  rw [ordE_ok hm] at ck
  rw [show vicS o = (vicO o).1 from if_pos hm, show vicE o = if (vicO o).2 = true then 0 else 6 from if_pos hm] at hK
  obtain ⟨h1, h2⟩ := hf
  obtain ⟨t, k⟩ := o
  unfold Ord.av at *
  simp only at *
  cases hemp : t.isEmpty with
  | false =>
    have hne : t ≠ [] := by simpa using hemp
    obtain ⟨hz, hlast⟩ := last_get hne
    have hpos : ((t).length : Int) > 0 := by omega
    have hle : (t).length ≤ 1000 := h1
    have e4 := at_enc (E := Enc.str) (T := T) (k := .i64) se22 hz rfl
    rw [str_cells] at e4
    have w1 : IntKind.i64.wrap (((t).length : Int) - 1) = (((t).length - 1 : Nat) : Int) := by rw [IntKind.wrap_i64]; omega
    have hv : vicO ⟨t, k⟩ = ((t)[(t).length - 1], true) := (by unfold vicO; simp only; rw [if_neg hne, hlast])
    rw [hv] at hK
    simp only [if_pos] at hK
    clear hv hlast
    generalize (t)[(t).length - 1] = lst at *
    refine WC_of_body hT Try.func26 rfl (by simp [Try.f26]) (by simp [Try.f26]) (wx_sound hT _ ?_)
    simp only [Try.f26]
    repeat' (first | simp only [go_sem, Nat.reduceLT, Nat.reduceEqDiff, Nat.reduceAdd, Nat.reduceMul, Nat.reduceSub, Nat.reduceLeDiff, Int.reduceToNat, Int.reduceNeg, Int.reduceLT, Int.reduceLE, Int.reduceEq, reduceCtorEq, Int.natCast_zero, Int.natCast_one, Int.cast_ofNat_Int, Bool.not_not, false_eq_decide, true_eq_decide, hread0, hreadk, read_cons0, read_consk, astore_h0, astore_hk, hget0, hgetk, hset0, hsetk, hlen, hcat, Nat.add_assoc, Nat.add_zero, Nat.zero_add, List.length_append, and_true, true_and, AV.flat, *, -hK, -ck, -hne, -hemp, -hz, -hle, -hm, -h1, -h2] | refine WC.call (ck _) ?_ | with_reducible refine IfB_dec (fun h => ?_) (fun h => ?_) | with_reducible refine Guard_dec (fun h => ?_) (fun h => ?_) | with_reducible refine Guard_ndec (fun h => ?_) (fun h => ?_) | with_reducible refine Guard_not (fun h => ?_) (fun h => ?_) | with_reducible refine IfB_ndec (fun h => ?_) (fun h => ?_) | with_reducible refine IfB_not (fun h => ?_) (fun h => ?_) | with_reducible refine Guard_split (fun h => ?_) (fun h => ?_) | with_reducible refine IfB_split (fun h => ?_) (fun h => ?_))
    exact hK _ _ (Thaw.tup_row ⟨.str _, .int _ _, trivial⟩) (Keep.app _ _ _)
  | true =>
  have ht : t = [] := by simpa using hemp
  subst ht
  clear hemp
  cases hemp : k.isEmpty with
  | false =>
    have hne : k ≠ [] := by simpa using hemp
    obtain ⟨hz, hlast⟩ := last_get hne
    have hpos : ((k).length : Int) > 0 := by omega
    have hle : (k).length ≤ 1000 := h2
    have e4 := at_enc (E := Enc.str) (T := T) (k := .i64) se22 hz rfl
    rw [str_cells] at e4
    have w1 : IntKind.i64.wrap (((k).length : Int) - 1) = (((k).length - 1 : Nat) : Int) := by rw [IntKind.wrap_i64]; omega
    have hv : vicO ⟨[], k⟩ = ((k)[(k).length - 1], true) := (by unfold vicO; simp only [if_true]; rw [if_neg hne, hlast])
    rw [hv] at hK
    simp only [if_pos] at hK
    clear hv hlast
    generalize (k)[(k).length - 1] = lst at *
    refine WC_of_body hT Try.func26 rfl (by simp [Try.f26]) (by simp [Try.f26]) (wx_sound hT _ ?_)
    simp only [Try.f26]
    repeat' (first | simp only [go_sem, Nat.reduceLT, Nat.reduceEqDiff, Nat.reduceAdd, Nat.reduceMul, Nat.reduceSub, Nat.reduceLeDiff, Int.reduceToNat, Int.reduceNeg, Int.reduceLT, Int.reduceLE, Int.reduceEq, reduceCtorEq, Int.natCast_zero, Int.natCast_one, Int.cast_ofNat_Int, Bool.not_not, false_eq_decide, true_eq_decide, hread0, hreadk, read_cons0, read_consk, astore_h0, astore_hk, hget0, hgetk, hset0, hsetk, hlen, hcat, Nat.add_assoc, Nat.add_zero, Nat.zero_add, List.length_append, and_true, true_and, AV.flat, *, -hK, -ck, -hne, -hemp, -hz, -hle, -hm, -h1, -h2] | refine WC.call (ck _) ?_ | with_reducible refine IfB_dec (fun h => ?_) (fun h => ?_) | with_reducible refine Guard_dec (fun h => ?_) (fun h => ?_) | with_reducible refine Guard_ndec (fun h => ?_) (fun h => ?_) | with_reducible refine Guard_not (fun h => ?_) (fun h => ?_) | with_reducible refine IfB_ndec (fun h => ?_) (fun h => ?_) | with_reducible refine IfB_not (fun h => ?_) (fun h => ?_) | with_reducible refine Guard_split (fun h => ?_) (fun h => ?_) | with_reducible refine IfB_split (fun h => ?_) (fun h => ?_))
    exact hK _ _ (Thaw.tup_row ⟨.str _, .int _ _, trivial⟩) (Keep.app _ _ _)
  | true =>
  have hk : k = [] := by simpa using hemp
  subst hk
  have hv : vicO ⟨[], []⟩ = ([], false) := rfl
  rw [hv] at hK
  simp only [Bool.false_eq_true, if_false] at hK
  refine WC_of_body hT Try.func26 rfl (by simp [Try.f26]) (by simp [Try.f26]) (wx_sound hT _ ?_)
  simp only [Try.f26]
  repeat' (first | simp only [go_sem, Nat.reduceLT, Nat.reduceEqDiff, Nat.reduceAdd, Nat.reduceMul, Nat.reduceSub, Nat.reduceLeDiff, Int.reduceToNat, Int.reduceNeg, Int.reduceLT, Int.reduceLE, Int.reduceEq, reduceCtorEq, Int.natCast_zero, Int.natCast_one, Int.cast_ofNat_Int, Bool.not_not, false_eq_decide, true_eq_decide, hread0, hreadk, read_cons0, read_consk, astore_h0, astore_hk, hget0, hgetk, hset0, hsetk, hlen, hcat, Nat.add_assoc, Nat.add_zero, Nat.zero_add, List.length_append, and_true, true_and, AV.flat, *, -hK, -ck, -hemp, -hm, -h1, -h2, -hv] | refine WC.call (ck _) ?_ | with_reducible refine IfB_dec (fun h => ?_) (fun h => ?_) | with_reducible refine Guard_dec (fun h => ?_) (fun h => ?_) | with_reducible refine Guard_ndec (fun h => ?_) (fun h => ?_) | with_reducible refine Guard_not (fun h => ?_) (fun h => ?_) | with_reducible refine IfB_ndec (fun h => ?_) (fun h => ?_) | with_reducible refine IfB_not (fun h => ?_) (fun h => ?_) | with_reducible refine Guard_split (fun h => ?_) (fun h => ?_) | with_reducible refine IfB_split (fun h => ?_) (fun h => ?_))
  exact hK _ _ (Thaw.tup_row ⟨.str _, .int _ _, trivial⟩) (Keep.app _ _ _)
theorem rTwin_spec (o : Ord) (hf : o.fit) (H : Heap) : WC Try.prog 22 [o.av] H fun r H' => r = o.av ∧ H' = H := by
  refine WC_val fun K hK => ?_
  obtain ⟨h1, h2⟩ := hf
  unfold Ord.av at *
  refine WC_of_body hT Try.func22 rfl (by simp [Try.f22]) (by simp [Try.f22]) (wx_sound hT _ ?_)
  simp only [Try.f22]
  repeat' (first | simp only [go_sem, Nat.reduceLT, Nat.reduceEqDiff, Nat.reduceAdd, Nat.reduceMul, Nat.reduceSub, Nat.reduceLeDiff, Int.reduceToNat, Int.reduceNeg, Int.reduceLT, Int.reduceLE, Int.reduceEq, reduceCtorEq, Int.natCast_zero, Int.natCast_one, Int.cast_ofNat_Int, Bool.not_not, false_eq_decide, true_eq_decide, hread0, hreadk, read_cons0, read_consk, astore_h0, astore_hk, hget0, hgetk, hset0, hsetk, hlen, hcat, Nat.add_assoc, Nat.add_zero, Nat.zero_add, List.length_append, and_true, true_and, AV.flat, *, -hK] | with_reducible refine IfB_dec (fun h => ?_) (fun h => ?_) | with_reducible refine Guard_dec (fun h => ?_) (fun h => ?_) | with_reducible refine Guard_ndec (fun h => ?_) (fun h => ?_) | with_reducible refine Guard_not (fun h => ?_) (fun h => ?_) | with_reducible refine IfB_ndec (fun h => ?_) (fun h => ?_) | with_reducible refine IfB_not (fun h => ?_) (fun h => ?_) | with_reducible refine Guard_split (fun h => ?_) (fun h => ?_) | with_reducible refine IfB_split (fun h => ?_) (fun h => ?_))
  refine WX_rows hT hmix [(0, none), (1, none), (3, none), (4, none), (2, some [false, false, true, true]), (5, some [true, true, true, true, true]), (6, none), (7, some [true, true, true, true, true, true, true])] (by kernel_rfl) ?_
  repeat' (first | simp only [go_sem, Nat.reduceLT, Nat.reduceEqDiff, Nat.reduceAdd, Nat.reduceMul, Nat.reduceSub, Nat.reduceLeDiff, Int.reduceToNat, Int.reduceNeg, Int.reduceLT, Int.reduceLE, Int.reduceEq, reduceCtorEq, Int.natCast_zero, Int.natCast_one, Int.cast_ofNat_Int, Bool.not_not, false_eq_decide, true_eq_decide, hread0, hreadk, read_cons0, read_consk, astore_h0, astore_hk, hget0, hgetk, hset0, hsetk, hlen, hcat, Nat.add_assoc, Nat.add_zero, Nat.zero_add, List.length_append, and_true, true_and, AV.flat, *, -hK] | with_reducible refine IfB_dec (fun h => ?_) (fun h => ?_) | with_reducible refine Guard_dec (fun h => ?_) (fun h => ?_) | with_reducible refine Guard_ndec (fun h => ?_) (fun h => ?_) | with_reducible refine Guard_not (fun h => ?_) (fun h => ?_) | with_reducible refine IfB_ndec (fun h => ?_) (fun h => ?_) | with_reducible refine IfB_not (fun h => ?_) (fun h => ?_) | with_reducible refine Guard_split (fun h => ?_) (fun h => ?_) | with_reducible refine IfB_split (fun h => ?_) (fun h => ?_))
  refine append_enc (E := Enc.str) (xs := []) (ys := o.t) (m := H.length + 2) (OwnE.nils _ _ _) se22 az9 td9 (src_enc tk22) (by decide) (by show (0 + o.t.length) * 17 ≤ _; omega) (by simp) ?_
  intro v1 J1 o1 k1 hn1
  rw [List.nil_append] at o1
  have g0 := k1.get (b := H.length) (B := ⟨[Enc.str.lst o.t, Enc.str.lst o.k], 0, .full⟩) (by rw [hget0]; rfl) (by simp [AV.blk])
  have g1 := k1.get (b := H.length + 1) (B := ⟨[.nils, .nils], 0, .full⟩) (by rw [hgetk]; rfl) (by simp [AV.blk])
  have hv1 := o1.one
  have hl1 : H.length + 2 ≤ J1.length := by have := k1.len; simpa using this
  repeat' (first | simp only [go_sem, Nat.reduceLT, Nat.reduceEqDiff, Nat.reduceAdd, Nat.reduceMul, Nat.reduceSub, Nat.reduceLeDiff, Int.reduceToNat, Int.reduceNeg, Int.reduceLT, Int.reduceLE, Int.reduceEq, reduceCtorEq, Int.natCast_zero, Int.natCast_one, Int.cast_ofNat_Int, Bool.not_not, false_eq_decide, true_eq_decide, hread0, hreadk, read_cons0, read_consk, astore_h0, astore_hk, hget0, hgetk, hset0, hsetk, hlen, hcat, Nat.add_assoc, Nat.add_zero, Nat.zero_add, List.length_append, and_true, true_and, AV.flat, g0, get_app g0, read_get g0, read_app g0, hv1, one_solid hv1, one_cells hv1, *, -hK, -o1, -k1, -hn1, -hl1, -g1] | with_reducible refine IfB_dec (fun h => ?_) (fun h => ?_) | with_reducible refine Guard_dec (fun h => ?_) (fun h => ?_) | with_reducible refine Guard_ndec (fun h => ?_) (fun h => ?_) | with_reducible refine Guard_not (fun h => ?_) (fun h => ?_) | with_reducible refine IfB_ndec (fun h => ?_) (fun h => ?_) | with_reducible refine IfB_not (fun h => ?_) (fun h => ?_) | with_reducible refine Guard_split (fun h => ?_) (fun h => ?_) | with_reducible refine IfB_split (fun h => ?_) (fun h => ?_))
  refine append_enc (E := Enc.str) (xs := []) (ys := o.k) (m := J1.length) (OwnE.nils _ _ _) se22 az9 td9 (src_enc tk22) (by decide) (by show (0 + o.k.length) * 17 ≤ _; omega) (Nat.le_refl _) ?_
  intro v2 J2 o2 k2 hn2
  rw [List.nil_append] at o2
  have g12 := k2.get g1 (by simp [AV.blk])
  have hv2 := o2.one
  have hl2 := k2.len
  have o1' : OwnE Enc.str H.length (List.set J2 (H.length + 1) ⟨[v1, v2], 0, .full⟩) v1 o.t := own_same (Own.mono (o1.keep0 k2) (by omega)) fun b hb => List.getElem?_set_ne fun e => by have := o1.ge hb; omega
  have o2' : OwnE Enc.str H.length (List.set J2 (H.length + 1) ⟨[v1, v2], 0, .full⟩) v2 o.k := own_same (Own.mono o2 (by omega)) fun b hb => List.getElem?_set_ne fun e => by have := o2.ge hb; omega
  have kF : Keep none H (List.set J2 (H.length + 1) ⟨[v1, v2], 0, .full⟩) := ⟨by rw [List.length_set]; omega, fun b hb _ => by rw [List.getElem?_set_ne (by omega), k2.at_ b (by omega) (by simp [AV.blk]), k1.at_ b (by simp; omega) (by simp [AV.blk]), List.getElem?_append_left hb]⟩
  repeat' (first | simp only [go_sem, Nat.reduceLT, Nat.reduceEqDiff, Nat.reduceAdd, Nat.reduceMul, Nat.reduceSub, Nat.reduceLeDiff, Int.reduceToNat, Int.reduceNeg, Int.reduceLT, Int.reduceLE, Int.reduceEq, reduceCtorEq, Int.natCast_zero, Int.natCast_one, Int.cast_ofNat_Int, Bool.not_not, false_eq_decide, true_eq_decide, hread0, hreadk, read_cons0, read_consk, astore_h0, astore_hk, hget0, hgetk, hset0, hsetk, hlen, hcat, Nat.add_assoc, Nat.add_zero, Nat.zero_add, List.length_append, and_true, true_and, AV.flat, g12, get_app g12, read_get g12, read_app g12, astore_get g12, astore_app g12, get_set g12, get_set_app g12, read_set g12, read_set_app g12, astore_set g12, astore_set_app g12, List.set_set, hget0s, hgetks, hread0s, hreadks, List.length_set, hv1, one_solid hv1, one_cells hv1, hv2, one_solid hv2, one_cells hv2, *, -hK, -o1, -k1, -hn1, -hl1, -g1, -g0, -o2, -k2, -hn2, -hl2, -kF] | with_reducible refine IfB_dec (fun h => ?_) (fun h => ?_) | with_reducible refine Guard_dec (fun h => ?_) (fun h => ?_) | with_reducible refine Guard_ndec (fun h => ?_) (fun h => ?_) | with_reducible refine Guard_not (fun h => ?_) (fun h => ?_) | with_reducible refine IfB_ndec (fun h => ?_) (fun h => ?_) | with_reducible refine IfB_not (fun h => ?_) (fun h => ?_) | with_reducible refine Guard_split (fun h => ?_) (fun h => ?_) | with_reducible refine IfB_split (fun h => ?_) (fun h => ?_))
  exact hK _ _ (Thaw.agg_row ⟨OwnE.thaw (E := Enc.str) o1' (by decide), OwnE.thaw (E := Enc.str) o2' (by decide), trivial⟩) kF
theorem rSame_spec (a b : Ord) (ha : a.fit) (H : Heap) : WC Try.prog 28 [a.av, b.av] H fun r H' => r = .bool (decide (a.t = b.t) && decide (a.k = b.k)) ∧ H' = H := by
  refine WC_val fun K hK => ?_
  have s1 := fun J => sameTexts_spec a.t b.t (by have := ha.1; omega) J
  have s2 := fun J => sameTexts_spec a.k b.k (by have := ha.2; omega) J
  unfold Ord.av at *
  generalize decide (a.t = b.t) = d1 at *
  generalize decide (a.k = b.k) = d2 at *
  cases d1 with
  | true =>
    rw [Bool.true_and] at hK
    refine WC_of_body hT Try.func28 rfl (by simp [Try.f28]) (by simp [Try.f28]) (wx_sound hT _ ?_)
    simp only [Try.f28]
    repeat' (first | simp only [go_sem, Nat.reduceLT, Nat.reduceEqDiff, Nat.reduceAdd, Nat.reduceMul, Nat.reduceSub, Nat.reduceLeDiff, Int.reduceToNat, Int.reduceNeg, Int.reduceLT, Int.reduceLE, Int.reduceEq, reduceCtorEq, Int.natCast_zero, Int.natCast_one, Int.cast_ofNat_Int, Bool.not_not, false_eq_decide, true_eq_decide, hread0, hreadk, read_cons0, read_consk, astore_h0, astore_hk, hget0, hgetk, hset0, hsetk, hlen, hcat, Nat.add_assoc, Nat.add_zero, Nat.zero_add, List.length_append, and_true, true_and, AV.flat, *, -hK, -s1, -s2, -ha] | refine WC.call (s1 _) ?_ | refine WC.call (s2 _) ?_ | with_reducible refine IfB_dec (fun h => ?_) (fun h => ?_) | with_reducible refine Guard_dec (fun h => ?_) (fun h => ?_) | with_reducible refine Guard_ndec (fun h => ?_) (fun h => ?_) | with_reducible refine Guard_not (fun h => ?_) (fun h => ?_) | with_reducible refine IfB_ndec (fun h => ?_) (fun h => ?_) | with_reducible refine IfB_not (fun h => ?_) (fun h => ?_) | with_reducible refine Guard_split (fun h => ?_) (fun h => ?_) | with_reducible refine IfB_split (fun h => ?_) (fun h => ?_))
    exact hK _ _ (.atom _ rfl) (Keep.app _ _ _)
  | false =>
    rw [Bool.false_and] at hK
    refine WC_of_body hT Try.func28 rfl (by simp [Try.f28]) (by simp [Try.f28]) (wx_sound hT _ ?_)
    simp only [Try.f28]
    repeat' (first | simp only [go_sem, Nat.reduceLT, Nat.reduceEqDiff, Nat.reduceAdd, Nat.reduceMul, Nat.reduceSub, Nat.reduceLeDiff, Int.reduceToNat, Int.reduceNeg, Int.reduceLT, Int.reduceLE, Int.reduceEq, reduceCtorEq, Int.natCast_zero, Int.natCast_one, Int.cast_ofNat_Int, Bool.not_not, false_eq_decide, true_eq_decide, hread0, hreadk, read_cons0, read_consk, astore_h0, astore_hk, hget0, hgetk, hset0, hsetk, hlen, hcat, Nat.add_assoc, Nat.add_zero, Nat.zero_add, List.length_append, and_true, true_and, AV.flat, *, -hK, -s1, -s2, -ha] | refine WC.call (s1 _) ?_ | refine WC.call (s2 _) ?_ | with_reducible refine IfB_dec (fun h => ?_) (fun h => ?_) | with_reducible refine Guard_dec (fun h => ?_) (fun h => ?_) | with_reducible refine Guard_ndec (fun h => ?_) (fun h => ?_) | with_reducible refine Guard_not (fun h => ?_) (fun h => ?_) | with_reducible refine IfB_ndec (fun h => ?_) (fun h => ?_) | with_reducible refine IfB_not (fun h => ?_) (fun h => ?_) | with_reducible refine Guard_split (fun h => ?_) (fun h => ?_) | with_reducible refine IfB_split (fun h => ?_) (fun h => ?_))
    exact hK _ _ (.atom _ rfl) (Keep.app _ _ _)
end Go.Proofs.Ytakllaigpjbgdaa
