import Derived.Test.YtakllaigpjbgdaaLruWh
import Derived.Test.YtakllaigpjbgdaaLruL
set_option linter.unusedSimpArgs false
set_option linter.unusedVariables false
set_option maxRecDepth 100000
set_option maxHeartbeats 4000000
namespace Go.Proofs.Ytakllaigpjbgdaa
open Go Go.Proofs Go.Proofs.PI
/-! ### the document's answers -/
theorem nodup_take2 {L : List (List UInt8)} (h : L.Nodup) {i : Nat} (hi : i < L.length) : L[i] ∉ L.take i := fun hm => by
  obtain ⟨a, ha, e⟩ := List.getElem_of_mem hm
  rw [List.length_take] at ha
  rw [List.getElem_take] at e
  exact List.pairwise_iff_getElem.1 h a i (by omega) hi (by omega) e
theorem rKey_spec (s : List UInt8) (H : Heap) : WC Try.prog 44 [.str s] H fun r H' => r = .bool (kOk s) ∧ H' = H := by
  refine WC_of_K fun K hK => ?_
  unfold kOk at hK
  by_cases h0 : (s.length : Int) ≥ 1
  · rw [show decide (1 ≤ s.length ∧ s.length ≤ 32) = decide ((s.length : Int) ≤ 32) by rw [decide_eq_decide]; omega] at hK
    refine WC_of_body hT Try.func44 rfl (by simp [Try.f44]) (by simp [Try.f44]) (wx_sound hT _ ?_)
    simp only [Try.f44]
    repeat' (first | simp only [go_sem, Nat.reduceLT, Nat.reduceEqDiff, Nat.reduceAdd, Nat.reduceMul, Nat.reduceSub, Nat.reduceLeDiff, Int.reduceToNat, Int.reduceNeg, Int.reduceLT, Int.reduceLE, Int.reduceEq, reduceCtorEq, Int.natCast_zero, Int.natCast_one, Int.cast_ofNat_Int, Bool.not_not, false_eq_decide, true_eq_decide, hread0, hreadk, read_cons0, read_consk, astore_h0, astore_hk, hget0, hgetk, hset0, hsetk, hlen, hcat, Nat.add_assoc, Nat.add_zero, Nat.zero_add, List.length_append, and_true, true_and, AV.flat, *, -hK] | with_reducible refine IfB_dec (fun h => ?_) (fun h => ?_) | with_reducible refine Guard_dec (fun h => ?_) (fun h => ?_) | with_reducible refine Guard_ndec (fun h => ?_) (fun h => ?_) | with_reducible refine Guard_not (fun h => ?_) (fun h => ?_) | with_reducible refine IfB_ndec (fun h => ?_) (fun h => ?_) | with_reducible refine IfB_not (fun h => ?_) (fun h => ?_) | with_reducible refine Guard_split (fun h => ?_) (fun h => ?_) | with_reducible refine IfB_split (fun h => ?_) (fun h => ?_))
    exact hK _ _ ⟨rfl, rfl⟩
  · rw [show decide (1 ≤ s.length ∧ s.length ≤ 32) = false by rw [decide_eq_false_iff_not]; omega] at hK
    refine WC_of_body hT Try.func44 rfl (by simp [Try.f44]) (by simp [Try.f44]) (wx_sound hT _ ?_)
    simp only [Try.f44]
    repeat' (first | simp only [go_sem, Nat.reduceLT, Nat.reduceEqDiff, Nat.reduceAdd, Nat.reduceMul, Nat.reduceSub, Nat.reduceLeDiff, Int.reduceToNat, Int.reduceNeg, Int.reduceLT, Int.reduceLE, Int.reduceEq, reduceCtorEq, Int.natCast_zero, Int.natCast_one, Int.cast_ofNat_Int, Bool.not_not, false_eq_decide, true_eq_decide, hread0, hreadk, read_cons0, read_consk, astore_h0, astore_hk, hget0, hgetk, hset0, hsetk, hlen, hcat, Nat.add_assoc, Nat.add_zero, Nat.zero_add, List.length_append, and_true, true_and, AV.flat, *, -hK] | with_reducible refine IfB_dec (fun h => ?_) (fun h => ?_) | with_reducible refine Guard_dec (fun h => ?_) (fun h => ?_) | with_reducible refine Guard_ndec (fun h => ?_) (fun h => ?_) | with_reducible refine Guard_not (fun h => ?_) (fun h => ?_) | with_reducible refine IfB_ndec (fun h => ?_) (fun h => ?_) | with_reducible refine IfB_not (fun h => ?_) (fun h => ?_) | with_reducible refine Guard_split (fun h => ?_) (fun h => ?_) | with_reducible refine IfB_split (fun h => ?_) (fun h => ?_))
    exact hK _ _ ⟨rfl, rfl⟩
theorem rFind_spec (l : List (List UInt8)) (s : List UInt8) (hl : l.length ≤ 1000000) (H : Heap) : WC Try.prog 39 [Enc.str.lst l, .str s] H fun r H' => (∃ n : Int, r = .int .i64 n ∧ ((s ∈ l ∧ n ≥ 0 ∧ ¬ n < 0) ∨ (s ∉ l ∧ n = -1))) ∧ H' = H := by
  refine WC_of_K fun K hK => ?_
  refine WC_of_body hT Try.func39 rfl (by simp [Try.f39]) (by simp [Try.f39]) (wx_sound hT _ ?_)
  simp only [Try.f39]
  repeat' (first | simp only [go_sem, Nat.reduceLT, Nat.reduceEqDiff, Nat.reduceAdd, Nat.reduceMul, Nat.reduceSub, Nat.reduceLeDiff, Int.reduceToNat, Int.reduceNeg, Int.reduceLT, Int.reduceLE, Int.reduceEq, reduceCtorEq, Int.natCast_zero, Int.natCast_one, Int.cast_ofNat_Int, Bool.not_not, false_eq_decide, true_eq_decide, hread0, hreadk, read_cons0, read_consk, astore_h0, astore_hk, hget0, hgetk, hset0, hsetk, hlen, hcat, Nat.add_assoc, Nat.add_zero, Nat.zero_add, List.length_append, and_true, true_and, AV.flat, *, -hK] | with_reducible refine IfB_dec (fun h => ?_) (fun h => ?_) | with_reducible refine Guard_dec (fun h => ?_) (fun h => ?_) | with_reducible refine Guard_ndec (fun h => ?_) (fun h => ?_) | with_reducible refine Guard_not (fun h => ?_) (fun h => ?_) | with_reducible refine IfB_ndec (fun h => ?_) (fun h => ?_) | with_reducible refine IfB_not (fun h => ?_) (fun h => ?_) | with_reducible refine Guard_split (fun h => ?_) (fun h => ?_) | with_reducible refine IfB_split (fun h => ?_) (fun h => ?_))
  refine WX_loopS [0, 1] (fun kn fr' J => ∃ i : Nat, kn = l.length - i ∧ i ≤ l.length ∧ fr'.get 5 = .int .i64 i ∧ J = H ∧ s ∉ l.take i) l.length ⟨0, rfl, by omega, by simp only [go_sem, Nat.reduceLT, Nat.reduceEqDiff, Nat.reduceAdd, Nat.reduceMul, Nat.reduceSub, Nat.reduceLeDiff, Int.reduceToNat, Int.reduceNeg, Int.reduceLT, Int.reduceLE, Int.reduceEq, reduceCtorEq]; rfl, rfl, by simp⟩ ?_
  rintro kn fr' J A R hA hs hg hR ⟨i, rfl, hi, f5, rfl, hno⟩
  have s0 := hg 0 (by decide)
  have s1 := hg 1 (by decide)
  simp only [Fr.get_put, Fr.get_init, List.getD_cons_zero, List.getD_cons_succ, Nat.reduceEqDiff, if_true, if_false] at s0 s1
  refine wx_sound hT _ ?_
  by_cases hlt : i < l.length
  rotate_left
  · have i1 : ¬ (i : Int) < l.length := by omega
    rw [List.take_of_length_le (by omega)] at hno
    repeat' (first | simp only [go_sem, Nat.reduceLT, Nat.reduceEqDiff, Nat.reduceAdd, Nat.reduceMul, Nat.reduceSub, Nat.reduceLeDiff, Int.reduceToNat, Int.reduceNeg, Int.reduceLT, Int.reduceLE, Int.reduceEq, reduceCtorEq, Int.natCast_zero, Int.natCast_one, Int.cast_ofNat_Int, Bool.not_not, false_eq_decide, true_eq_decide, hread0, hreadk, read_cons0, read_consk, astore_h0, astore_hk, hget0, hgetk, hset0, hsetk, hlen, hcat, Nat.add_assoc, Nat.add_zero, Nat.zero_add, List.length_append, and_true, true_and, AV.flat, *, -hK, -hno, -hlt] | with_reducible refine IfB_dec (fun h => ?_) (fun h => ?_) | with_reducible refine Guard_dec (fun h => ?_) (fun h => ?_) | with_reducible refine Guard_ndec (fun h => ?_) (fun h => ?_) | with_reducible refine Guard_not (fun h => ?_) (fun h => ?_) | with_reducible refine IfB_ndec (fun h => ?_) (fun h => ?_) | with_reducible refine IfB_not (fun h => ?_) (fun h => ?_) | with_reducible refine Guard_split (fun h => ?_) (fun h => ?_) | with_reducible refine IfB_split (fun h => ?_) (fun h => ?_))
    exact hK _ _ ⟨⟨_, rfl, .inr ⟨hno, rfl⟩⟩, rfl⟩
  have i1 : (i : Int) < l.length := by omega
  have e3 := inc_id hlt (by omega)
  have e1 := at_enc (E := Enc.str) (T := T) (k := .i64) se22 hlt rfl
  rw [str_cells] at e1
  by_cases hx : l[i] = s
  · have h1 : s ∈ l := by rw [← hx]; exact List.getElem_mem hlt
    clear hR
    generalize l[i] = x at *
    repeat' (first | simp only [go_sem, Nat.reduceLT, Nat.reduceEqDiff, Nat.reduceAdd, Nat.reduceMul, Nat.reduceSub, Nat.reduceLeDiff, Int.reduceToNat, Int.reduceNeg, Int.reduceLT, Int.reduceLE, Int.reduceEq, reduceCtorEq, Int.natCast_zero, Int.natCast_one, Int.cast_ofNat_Int, Bool.not_not, false_eq_decide, true_eq_decide, hread0, hreadk, read_cons0, read_consk, astore_h0, astore_hk, hget0, hgetk, hset0, hsetk, hlen, hcat, Nat.add_assoc, Nat.add_zero, Nat.zero_add, List.length_append, and_true, true_and, AV.flat, *, -hK, -hno, -hlt, -h1] | with_reducible refine IfB_dec (fun h => ?_) (fun h => ?_) | with_reducible refine Guard_dec (fun h => ?_) (fun h => ?_) | with_reducible refine Guard_ndec (fun h => ?_) (fun h => ?_) | with_reducible refine Guard_not (fun h => ?_) (fun h => ?_) | with_reducible refine IfB_ndec (fun h => ?_) (fun h => ?_) | with_reducible refine IfB_not (fun h => ?_) (fun h => ?_) | with_reducible refine Guard_split (fun h => ?_) (fun h => ?_) | with_reducible refine IfB_split (fun h => ?_) (fun h => ?_))
    exact hK _ _ ⟨⟨_, rfl, .inl ⟨h1, by omega, by omega⟩⟩, rfl⟩
  · have hst : s ∉ l.take (i + 1) := fun hm => by
      rw [List.take_succ_eq_append_getElem hlt] at hm
      rcases List.mem_append.1 hm with hm | hm
      · exact hno hm
      · exact hx (List.mem_singleton.1 hm).symm
    have back : ∀ fr2, A fr2 → fr2.get 5 = .int .i64 ((i + 1 : Nat) : Int) → R fr2 J := fun fr2 ha q1 => hR fr2 J ha (l.length - (i + 1)) (by omega) ⟨i + 1, rfl, by omega, q1, rfl, hst⟩
    clear hR hst
    generalize l[i] = x at *
    repeat' (first | simp only [go_sem, Nat.reduceLT, Nat.reduceEqDiff, Nat.reduceAdd, Nat.reduceMul, Nat.reduceSub, Nat.reduceLeDiff, Int.reduceToNat, Int.reduceNeg, Int.reduceLT, Int.reduceLE, Int.reduceEq, reduceCtorEq, Int.natCast_zero, Int.natCast_one, Int.cast_ofNat_Int, Bool.not_not, false_eq_decide, true_eq_decide, hread0, hreadk, read_cons0, read_consk, astore_h0, astore_hk, hget0, hgetk, hset0, hsetk, hlen, hcat, Nat.add_assoc, Nat.add_zero, Nat.zero_add, List.length_append, and_true, true_and, AV.flat, *, -hK, -hno, -hlt, -back] | with_reducible refine IfB_dec (fun h => ?_) (fun h => ?_) | with_reducible refine Guard_dec (fun h => ?_) (fun h => ?_) | with_reducible refine Guard_ndec (fun h => ?_) (fun h => ?_) | with_reducible refine Guard_not (fun h => ?_) (fun h => ?_) | with_reducible refine IfB_ndec (fun h => ?_) (fun h => ?_) | with_reducible refine IfB_not (fun h => ?_) (fun h => ?_) | with_reducible refine Guard_split (fun h => ?_) (fun h => ?_) | with_reducible refine IfB_split (fun h => ?_) (fun h => ?_))
    exact back _ (by (repeat (first | exact hs | refine hA _ _ _ (by decide) ?_))) (by simp only [go_sem, Nat.reduceLT, Nat.reduceEqDiff, Nat.reduceAdd, Nat.reduceMul, Nat.reduceSub, Nat.reduceLeDiff, Int.reduceToNat, Int.reduceNeg, Int.reduceLT, Int.reduceLE, Int.reduceEq, reduceCtorEq])
theorem rAllK_spec (o : Ord) (hf : o.fit) (H : Heap) : WC Try.prog 40 [o.av] H fun r H' => r = Enc.str.lst (keysO o) ∧ H' = H := by
  refine WC_val fun K hK => ?_
  obtain ⟨h1, h2⟩ := hf
  unfold Ord.av
  refine WC_of_body hT Try.func40 rfl (by simp [Try.f40]) (by simp [Try.f40]) (wx_sound hT _ ?_)
  simp only [Try.f40]
  repeat' (first | simp only [go_sem, Nat.reduceLT, Nat.reduceEqDiff, Nat.reduceAdd, Nat.reduceMul, Nat.reduceSub, Nat.reduceLeDiff, Int.reduceToNat, Int.reduceNeg, Int.reduceLT, Int.reduceLE, Int.reduceEq, reduceCtorEq, Int.natCast_zero, Int.natCast_one, Int.cast_ofNat_Int, Bool.not_not, false_eq_decide, true_eq_decide, hread0, hreadk, read_cons0, read_consk, astore_h0, astore_hk, hget0, hgetk, hset0, hsetk, hlen, hcat, Nat.add_assoc, Nat.add_zero, Nat.zero_add, List.length_append, and_true, true_and, AV.flat, *, -hK] | with_reducible refine IfB_dec (fun h => ?_) (fun h => ?_) | with_reducible refine Guard_dec (fun h => ?_) (fun h => ?_) | with_reducible refine Guard_ndec (fun h => ?_) (fun h => ?_) | with_reducible refine Guard_not (fun h => ?_) (fun h => ?_) | with_reducible refine IfB_ndec (fun h => ?_) (fun h => ?_) | with_reducible refine IfB_not (fun h => ?_) (fun h => ?_) | with_reducible refine Guard_split (fun h => ?_) (fun h => ?_) | with_reducible refine IfB_split (fun h => ?_) (fun h => ?_))
  refine append_enc (E := Enc.str) (xs := []) (ys := o.t) (m := H.length + 1) (OwnE.nils _ _ _) se22 az9 td9 (src_enc tk22) (by decide) (by show (0 + o.t.length) * 17 ≤ _; omega) (by simp) ?_
  intro v1 J1 o1 k1 hn1
  have g0 := k1.get (b := H.length) (B := ⟨[Enc.str.lst o.t, Enc.str.lst o.k], 0, .full⟩) (by rw [hget0]; rfl) (by simp [AV.blk])
  have hv1 := o1.one
  have hl1 : H.length + 1 ≤ J1.length := by have := k1.len; simpa using this
  repeat' (first | simp only [go_sem, Nat.reduceLT, Nat.reduceEqDiff, Nat.reduceAdd, Nat.reduceMul, Nat.reduceSub, Nat.reduceLeDiff, Int.reduceToNat, Int.reduceNeg, Int.reduceLT, Int.reduceLE, Int.reduceEq, reduceCtorEq, Int.natCast_zero, Int.natCast_one, Int.cast_ofNat_Int, Bool.not_not, false_eq_decide, true_eq_decide, hread0, hreadk, read_cons0, read_consk, astore_h0, astore_hk, hget0, hgetk, hset0, hsetk, hlen, hcat, Nat.add_assoc, Nat.add_zero, Nat.zero_add, List.length_append, and_true, true_and, AV.flat, g0, get_app g0, read_get g0, read_app g0, hv1, one_solid hv1, one_cells hv1, *, -hK, -o1, -k1, -hn1, -hl1] | with_reducible refine IfB_dec (fun h => ?_) (fun h => ?_) | with_reducible refine Guard_dec (fun h => ?_) (fun h => ?_) | with_reducible refine Guard_ndec (fun h => ?_) (fun h => ?_) | with_reducible refine Guard_not (fun h => ?_) (fun h => ?_) | with_reducible refine IfB_ndec (fun h => ?_) (fun h => ?_) | with_reducible refine IfB_not (fun h => ?_) (fun h => ?_) | with_reducible refine Guard_split (fun h => ?_) (fun h => ?_) | with_reducible refine IfB_split (fun h => ?_) (fun h => ?_))
  refine append_enc (E := Enc.str) (xs := o.t) (ys := o.k) (m := H.length + 1) o1 se22 az9 td9 (src_enc tk22) (by decide) (by show (o.t.length + o.k.length) * 17 ≤ _; omega) hl1 ?_
  intro v2 J2 o2 k2 hn2
  have hv2 := o2.one
  have kJ : Keep none H J2 := ⟨by have := k2.len; omega, fun c hc _ => by rw [k2.at_ c (by omega) (fun e => by have := o1.ge e; omega), k1.at_ c (by simp; omega) (by simp [AV.blk]), List.getElem?_append_left hc]⟩
  repeat' (first | simp only [go_sem, Nat.reduceLT, Nat.reduceEqDiff, Nat.reduceAdd, Nat.reduceMul, Nat.reduceSub, Nat.reduceLeDiff, Int.reduceToNat, Int.reduceNeg, Int.reduceLT, Int.reduceLE, Int.reduceEq, reduceCtorEq, Int.natCast_zero, Int.natCast_one, Int.cast_ofNat_Int, Bool.not_not, false_eq_decide, true_eq_decide, hread0, hreadk, read_cons0, read_consk, astore_h0, astore_hk, hget0, hgetk, hset0, hsetk, hlen, hcat, Nat.add_assoc, Nat.add_zero, Nat.zero_add, List.length_append, and_true, true_and, AV.flat, hv2, one_solid hv2, one_cells hv2, *, -hK, -o1, -k1, -hn1, -hl1, -o2, -k2, -hn2, -kJ, -g0] | with_reducible refine IfB_dec (fun h => ?_) (fun h => ?_) | with_reducible refine Guard_dec (fun h => ?_) (fun h => ?_) | with_reducible refine Guard_ndec (fun h => ?_) (fun h => ?_) | with_reducible refine Guard_not (fun h => ?_) (fun h => ?_) | with_reducible refine IfB_ndec (fun h => ?_) (fun h => ?_) | with_reducible refine IfB_not (fun h => ?_) (fun h => ?_) | with_reducible refine Guard_split (fun h => ?_) (fun h => ?_) | with_reducible refine IfB_split (fun h => ?_) (fun h => ?_))
  exact hK _ _ (OwnE.thaw (E := Enc.str) (Own.mono o2 (m' := H.length) (by omega)) (by decide)) kJ
theorem rCheck_spec (o : Ord) (hf : o.fit) (H : Heap) : WC Try.prog 29 [o.av] H fun r H' => r = .int .i64 (ordE o) ∧ H' = H := by
  refine WC_val fun K hK => ?_
  have al := fun J => rAllK_spec o hf J
  have hfit := hf
  obtain ⟨h1, h2⟩ := hf
  have hkl : ((keysO o).length : Int) = (o.t.length : Int) + o.k.length := by unfold keysO; rw [List.length_append]; omega
  have hbadG : ¬ goodL (keysO o) → ordE o = 8 := fun h => ordE_bad fun hm => h hm.2.2
  have w2 : IntKind.i64.wrap (((keysO o).length : Int) + 1) = (((keysO o).length + 1 : Nat) : Int) := by rw [IntKind.wrap_i64]; omega
  have w3 : Int.tdiv (((keysO o).length + 1 : Nat) : Int) 2 = (halfN o : Nat) := by
    rw [show halfN o = ((keysO o).length + 1) / 2 by unfold halfN keysO; rw [List.length_append]]
    exact (Int.ofNat_tdiv _ _).symm
  have w4 : IntKind.i64.wrap ((halfN o : Nat) : Int) = (halfN o : Nat) := by unfold halfN; rw [IntKind.wrap_i64]; omega
  by_cases q1 : ((keysO o).length : Int) > 256
  · rw [ordE_bad fun h => by have := h.1; omega] at hK
    unfold Ord.av at *
    generalize keysO o = L at *
    refine WC_of_body hT Try.func29 rfl (by simp [Try.f29]) (by simp [Try.f29]) (wx_sound hT _ ?_)
    simp only [Try.f29]
    repeat' (first | simp only [go_sem, Nat.reduceLT, Nat.reduceEqDiff, Nat.reduceAdd, Nat.reduceMul, Nat.reduceSub, Nat.reduceLeDiff, Int.reduceToNat, Int.reduceNeg, Int.reduceLT, Int.reduceLE, Int.reduceEq, reduceCtorEq, Int.natCast_zero, Int.natCast_one, Int.cast_ofNat_Int, Bool.not_not, false_eq_decide, true_eq_decide, hread0, hreadk, read_cons0, read_consk, astore_h0, astore_hk, hget0, hgetk, hset0, hsetk, hlen, hcat, Nat.add_assoc, Nat.add_zero, Nat.zero_add, List.length_append, and_true, true_and, AV.flat, *, -hK, -al, -hfit, -hbadG, -hkl] | refine WC.call (al _) ?_ | with_reducible refine IfB_dec (fun h => ?_) (fun h => ?_) | with_reducible refine Guard_dec (fun h => ?_) (fun h => ?_) | with_reducible refine Guard_ndec (fun h => ?_) (fun h => ?_) | with_reducible refine Guard_not (fun h => ?_) (fun h => ?_) | with_reducible refine IfB_ndec (fun h => ?_) (fun h => ?_) | with_reducible refine IfB_not (fun h => ?_) (fun h => ?_) | with_reducible refine Guard_split (fun h => ?_) (fun h => ?_) | with_reducible refine IfB_split (fun h => ?_) (fun h => ?_))
    exact hK _ _ (.int _ _) (Keep.app _ _ _)
  by_cases q2 : (o.k.length : Int) > (halfN o : Nat)
  · rw [ordE_bad fun h => by have := h.2.1; omega] at hK
    unfold Ord.av at *
    generalize keysO o = L at *
    generalize halfN o = hn at *
    refine WC_of_body hT Try.func29 rfl (by simp [Try.f29]) (by simp [Try.f29]) (wx_sound hT _ ?_)
    simp only [Try.f29]
    repeat' (first | simp only [go_sem, Nat.reduceLT, Nat.reduceEqDiff, Nat.reduceAdd, Nat.reduceMul, Nat.reduceSub, Nat.reduceLeDiff, Int.reduceToNat, Int.reduceNeg, Int.reduceLT, Int.reduceLE, Int.reduceEq, reduceCtorEq, Int.natCast_zero, Int.natCast_one, Int.cast_ofNat_Int, Bool.not_not, false_eq_decide, true_eq_decide, hread0, hreadk, read_cons0, read_consk, astore_h0, astore_hk, hget0, hgetk, hset0, hsetk, hlen, hcat, Nat.add_assoc, Nat.add_zero, Nat.zero_add, List.length_append, and_true, true_and, AV.flat, *, -hK, -al, -hfit, -hbadG, -hkl] | refine WC.call (al _) ?_ | with_reducible refine IfB_dec (fun h => ?_) (fun h => ?_) | with_reducible refine Guard_dec (fun h => ?_) (fun h => ?_) | with_reducible refine Guard_ndec (fun h => ?_) (fun h => ?_) | with_reducible refine Guard_not (fun h => ?_) (fun h => ?_) | with_reducible refine IfB_ndec (fun h => ?_) (fun h => ?_) | with_reducible refine IfB_not (fun h => ?_) (fun h => ?_) | with_reducible refine Guard_split (fun h => ?_) (fun h => ?_) | with_reducible refine IfB_split (fun h => ?_) (fun h => ?_))
    exact hK _ _ (.int _ _) (Keep.app _ _ _)
  have hgoodG : goodL (keysO o) → ordE o = 0 := fun h => ordE_ok ⟨by omega, by omega, h⟩
  unfold Ord.av at *
  generalize halfN o = hn at *
  generalize keysO o = L at *
  refine WC_of_body hT Try.func29 rfl (by simp [Try.f29]) (by simp [Try.f29]) (wx_sound hT _ ?_)
  simp only [Try.f29]
  repeat' (first | simp only [go_sem, Nat.reduceLT, Nat.reduceEqDiff, Nat.reduceAdd, Nat.reduceMul, Nat.reduceSub, Nat.reduceLeDiff, Int.reduceToNat, Int.reduceNeg, Int.reduceLT, Int.reduceLE, Int.reduceEq, reduceCtorEq, Int.natCast_zero, Int.natCast_one, Int.cast_ofNat_Int, Bool.not_not, false_eq_decide, true_eq_decide, hread0, hreadk, read_cons0, read_consk, astore_h0, astore_hk, hget0, hgetk, hset0, hsetk, hlen, hcat, Nat.add_assoc, Nat.add_zero, Nat.zero_add, List.length_append, and_true, true_and, AV.flat, *, -hK, -al, -hfit, -hbadG, -hkl, -hgoodG] | refine WC.call (al _) ?_ | with_reducible refine IfB_dec (fun h => ?_) (fun h => ?_) | with_reducible refine Guard_dec (fun h => ?_) (fun h => ?_) | with_reducible refine Guard_ndec (fun h => ?_) (fun h => ?_) | with_reducible refine Guard_not (fun h => ?_) (fun h => ?_) | with_reducible refine IfB_ndec (fun h => ?_) (fun h => ?_) | with_reducible refine IfB_not (fun h => ?_) (fun h => ?_) | with_reducible refine Guard_split (fun h => ?_) (fun h => ?_) | with_reducible refine IfB_split (fun h => ?_) (fun h => ?_))
  clear al w2 w3 w4
  have kG : Keep none H (H ++ [(⟨[Enc.str.lst o.t, Enc.str.lst o.k], 0, .full⟩ : Blk)]) := Keep.app _ _ _
  generalize (H ++ [(⟨[Enc.str.lst o.t, Enc.str.lst o.k], 0, .full⟩ : Blk)] : Heap) = G at *
  refine WX_loopS [3] (fun kn fr' J => ∃ i : Nat, kn = L.length - i ∧ i ≤ L.length ∧ fr'.get 4 = .int .i64 i ∧ J = G ∧ goodL (L.take i)) L.length ⟨0, rfl, by omega, by simp only [go_sem, Nat.reduceLT, Nat.reduceEqDiff, Nat.reduceAdd, Nat.reduceMul, Nat.reduceSub, Nat.reduceLeDiff, Int.reduceToNat, Int.reduceNeg, Int.reduceLT, Int.reduceLE, Int.reduceEq, reduceCtorEq]; rfl, rfl, by simp [goodL]⟩ ?_
  rintro kn fr' J A R hA hs hg hR ⟨i, rfl, hi, f4, rfl, hgd⟩
  have s3 := hg 3 (by decide)
  simp only [Fr.get_put, Fr.get_init, List.getD_cons_zero, List.getD_cons_succ, Nat.reduceEqDiff, if_true, if_false] at s3
  refine wx_sound hT _ ?_
  by_cases hlt : i < L.length
  rotate_left
  · have i1 : ¬ (i : Int) < L.length := by omega
    rw [List.take_of_length_le (by omega)] at hgd
    rw [hgoodG hgd] at hK
    clear hgoodG hbadG
    repeat' (first | simp only [go_sem, Nat.reduceLT, Nat.reduceEqDiff, Nat.reduceAdd, Nat.reduceMul, Nat.reduceSub, Nat.reduceLeDiff, Int.reduceToNat, Int.reduceNeg, Int.reduceLT, Int.reduceLE, Int.reduceEq, reduceCtorEq, Int.natCast_zero, Int.natCast_one, Int.cast_ofNat_Int, Bool.not_not, false_eq_decide, true_eq_decide, hread0, hreadk, read_cons0, read_consk, astore_h0, astore_hk, hget0, hgetk, hset0, hsetk, hlen, hcat, Nat.add_assoc, Nat.add_zero, Nat.zero_add, List.length_append, and_true, true_and, AV.flat, *, -hK, -hgd, -hlt, -kG, -hfit, -hkl] | with_reducible refine IfB_dec (fun h => ?_) (fun h => ?_) | with_reducible refine Guard_dec (fun h => ?_) (fun h => ?_) | with_reducible refine Guard_ndec (fun h => ?_) (fun h => ?_) | with_reducible refine Guard_not (fun h => ?_) (fun h => ?_) | with_reducible refine IfB_ndec (fun h => ?_) (fun h => ?_) | with_reducible refine IfB_not (fun h => ?_) (fun h => ?_) | with_reducible refine Guard_split (fun h => ?_) (fun h => ?_) | with_reducible refine IfB_split (fun h => ?_) (fun h => ?_))
    exact hK _ _ (.int _ _) kG
  have i1 : (i : Int) < L.length := by omega
  have e3 := inc_id hlt (by omega)
  have e1 := at_enc (E := Enc.str) (T := T) (k := .i64) se22 hlt rfl
  rw [str_cells] at e1
  have e5 := slice_enc (E := Enc.str) (T := T) (H := J) (xs := L) se22 (lo := none) (hi := some (.int .i64 i)) (l := 0) (u := i) rfl (abound_nat i rfl) (Nat.zero_le _) (by omega)
  rw [List.drop_zero] at e5
  have kd := fun J => rKey_spec L[i] J
  have hst : L.take (i + 1) = L.take i ++ [L[i]] := List.take_succ_eq_append_getElem hlt
  have hbad : (kOk L[i] = false ∨ L[i] ∈ L.take i) → ordE o = 8 := fun hb => hbadG fun hgl => by
    rcases hb with hb | hb
    · have := hgl.1 _ (List.getElem_mem hlt); rw [this] at hb; cases hb
    · exact nodup_take2 hgl.2 hlt hb
  have back : goodL (L.take i ++ [L[i]]) → ∀ fr2, A fr2 → fr2.get 4 = .int .i64 ((i + 1 : Nat) : Int) → R fr2 J := fun hg fr2 ha q1 => hR fr2 J ha (L.length - (i + 1)) (by omega) ⟨i + 1, rfl, by omega, q1, rfl, by rw [hst]; exact hg⟩
  clear hR hbadG hgoodG hst
  have htl : (L.take i).length ≤ 1000000 := by rw [List.length_take]; omega
  have fd := fun (J : Heap) => rFind_spec (L.take i) L[i] htl J
  generalize L.take i = pre at *
  generalize L[i] = s at *
  cases hk : kOk s with
  | false =>
    rw [hk] at kd
    rw [hbad (.inl hk)] at hK
    repeat' (first | simp only [go_sem, Nat.reduceLT, Nat.reduceEqDiff, Nat.reduceAdd, Nat.reduceMul, Nat.reduceSub, Nat.reduceLeDiff, Int.reduceToNat, Int.reduceNeg, Int.reduceLT, Int.reduceLE, Int.reduceEq, reduceCtorEq, Int.natCast_zero, Int.natCast_one, Int.cast_ofNat_Int, Bool.not_not, false_eq_decide, true_eq_decide, hread0, hreadk, read_cons0, read_consk, astore_h0, astore_hk, hget0, hgetk, hset0, hsetk, hlen, hcat, Nat.add_assoc, Nat.add_zero, Nat.zero_add, List.length_append, and_true, true_and, AV.flat, *, -hK, -hgd, -hlt, -kG, -hfit, -hkl, -kd, -hbad, -back, -fd, -htl, -hk] | with_reducible refine IfB_dec (fun h => ?_) (fun h => ?_) | with_reducible refine Guard_dec (fun h => ?_) (fun h => ?_) | with_reducible refine Guard_ndec (fun h => ?_) (fun h => ?_) | with_reducible refine Guard_not (fun h => ?_) (fun h => ?_) | with_reducible refine IfB_ndec (fun h => ?_) (fun h => ?_) | with_reducible refine IfB_not (fun h => ?_) (fun h => ?_) | with_reducible refine Guard_split (fun h => ?_) (fun h => ?_) | with_reducible refine IfB_split (fun h => ?_) (fun h => ?_))
    refine WX_rows hT hmix [(0, none), (1, none), (2, none), (3, none), (4, some [true, true, true, true]), (5, none), (6, none), (7, none), (8, none), (9, none), (10, none), (11, none), (12, none), (13, none), (14, some [true, true, true, true, true, true, true, true, true, true, true, true, true, true]), (15, none), (16, none)] (by kernel_rfl) ?_
    repeat' (first | simp only [go_sem, Nat.reduceLT, Nat.reduceEqDiff, Nat.reduceAdd, Nat.reduceMul, Nat.reduceSub, Nat.reduceLeDiff, Int.reduceToNat, Int.reduceNeg, Int.reduceLT, Int.reduceLE, Int.reduceEq, reduceCtorEq, Int.natCast_zero, Int.natCast_one, Int.cast_ofNat_Int, Bool.not_not, false_eq_decide, true_eq_decide, hread0, hreadk, read_cons0, read_consk, astore_h0, astore_hk, hget0, hgetk, hset0, hsetk, hlen, hcat, Nat.add_assoc, Nat.add_zero, Nat.zero_add, List.length_append, and_true, true_and, AV.flat, *, -hK, -hgd, -hlt, -kG, -hfit, -hkl, -kd, -hbad, -back, -fd, -htl, -hk] | refine WC.call (kd _) ?_ | with_reducible refine IfB_dec (fun h => ?_) (fun h => ?_) | with_reducible refine Guard_dec (fun h => ?_) (fun h => ?_) | with_reducible refine Guard_ndec (fun h => ?_) (fun h => ?_) | with_reducible refine Guard_not (fun h => ?_) (fun h => ?_) | with_reducible refine IfB_ndec (fun h => ?_) (fun h => ?_) | with_reducible refine IfB_not (fun h => ?_) (fun h => ?_) | with_reducible refine Guard_split (fun h => ?_) (fun h => ?_) | with_reducible refine IfB_split (fun h => ?_) (fun h => ?_))
    exact hK _ _ (.int _ _) kG
  | true =>
  rw [hk] at kd
  repeat' (first | simp only [go_sem, Nat.reduceLT, Nat.reduceEqDiff, Nat.reduceAdd, Nat.reduceMul, Nat.reduceSub, Nat.reduceLeDiff, Int.reduceToNat, Int.reduceNeg, Int.reduceLT, Int.reduceLE, Int.reduceEq, reduceCtorEq, Int.natCast_zero, Int.natCast_one, Int.cast_ofNat_Int, Bool.not_not, false_eq_decide, true_eq_decide, hread0, hreadk, read_cons0, read_consk, astore_h0, astore_hk, hget0, hgetk, hset0, hsetk, hlen, hcat, Nat.add_assoc, Nat.add_zero, Nat.zero_add, List.length_append, and_true, true_and, AV.flat, *, -hK, -hgd, -hlt, -kG, -hfit, -hkl, -kd, -hbad, -back, -fd, -htl, -hk] | with_reducible refine IfB_dec (fun h => ?_) (fun h => ?_) | with_reducible refine Guard_dec (fun h => ?_) (fun h => ?_) | with_reducible refine Guard_ndec (fun h => ?_) (fun h => ?_) | with_reducible refine Guard_not (fun h => ?_) (fun h => ?_) | with_reducible refine IfB_ndec (fun h => ?_) (fun h => ?_) | with_reducible refine IfB_not (fun h => ?_) (fun h => ?_) | with_reducible refine Guard_split (fun h => ?_) (fun h => ?_) | with_reducible refine IfB_split (fun h => ?_) (fun h => ?_))
  refine WX_rows hT hmix [(0, none), (1, none), (2, none), (3, none), (4, some [true, true, true, true]), (5, none), (6, none), (7, none), (8, none), (9, none), (10, none), (11, none), (12, none), (13, none), (14, some [true, true, true, true, true, true, true, true, true, true, true, true, true, true]), (15, none), (16, none)] (by kernel_rfl) ?_
  repeat' (first | simp only [go_sem, Nat.reduceLT, Nat.reduceEqDiff, Nat.reduceAdd, Nat.reduceMul, Nat.reduceSub, Nat.reduceLeDiff, Int.reduceToNat, Int.reduceNeg, Int.reduceLT, Int.reduceLE, Int.reduceEq, reduceCtorEq, Int.natCast_zero, Int.natCast_one, Int.cast_ofNat_Int, Bool.not_not, false_eq_decide, true_eq_decide, hread0, hreadk, read_cons0, read_consk, astore_h0, astore_hk, hget0, hgetk, hset0, hsetk, hlen, hcat, Nat.add_assoc, Nat.add_zero, Nat.zero_add, List.length_append, and_true, true_and, AV.flat, *, -hK, -hgd, -hlt, -kG, -hfit, -hkl, -kd, -hbad, -back, -fd, -htl, -hk] | refine WC.call (kd _) ?_ | with_reducible refine IfB_dec (fun h => ?_) (fun h => ?_) | with_reducible refine Guard_dec (fun h => ?_) (fun h => ?_) | with_reducible refine Guard_ndec (fun h => ?_) (fun h => ?_) | with_reducible refine Guard_not (fun h => ?_) (fun h => ?_) | with_reducible refine IfB_ndec (fun h => ?_) (fun h => ?_) | with_reducible refine IfB_not (fun h => ?_) (fun h => ?_) | with_reducible refine Guard_split (fun h => ?_) (fun h => ?_) | with_reducible refine IfB_split (fun h => ?_) (fun h => ?_))
  refine (fd _).mono ?_
  rintro _ J9 ⟨⟨n, rfl, hn⟩, hJ9⟩
  replace hJ9 := hJ9.symm
  subst hJ9
  rcases hn with ⟨hm, hn1, hn2⟩ | ⟨hm, rfl⟩
  · rw [hbad (.inr hm)] at hK
    clear hm
    repeat' (first | simp only [go_sem, Nat.reduceLT, Nat.reduceEqDiff, Nat.reduceAdd, Nat.reduceMul, Nat.reduceSub, Nat.reduceLeDiff, Int.reduceToNat, Int.reduceNeg, Int.reduceLT, Int.reduceLE, Int.reduceEq, reduceCtorEq, Int.natCast_zero, Int.natCast_one, Int.cast_ofNat_Int, Bool.not_not, false_eq_decide, true_eq_decide, hread0, hreadk, read_cons0, read_consk, astore_h0, astore_hk, hget0, hgetk, hset0, hsetk, hlen, hcat, Nat.add_assoc, Nat.add_zero, Nat.zero_add, List.length_append, and_true, true_and, AV.flat, *, -hK, -hgd, -hlt, -kG, -hfit, -hkl, -kd, -hbad, -back, -fd, -htl, -hk] | with_reducible refine IfB_dec (fun h => ?_) (fun h => ?_) | with_reducible refine Guard_dec (fun h => ?_) (fun h => ?_) | with_reducible refine Guard_ndec (fun h => ?_) (fun h => ?_) | with_reducible refine Guard_not (fun h => ?_) (fun h => ?_) | with_reducible refine IfB_ndec (fun h => ?_) (fun h => ?_) | with_reducible refine IfB_not (fun h => ?_) (fun h => ?_) | with_reducible refine Guard_split (fun h => ?_) (fun h => ?_) | with_reducible refine IfB_split (fun h => ?_) (fun h => ?_))
    exact hK _ _ (.int _ _) kG
  · have back := back (goodL_snoc hgd hk hm)
    clear hm
    repeat' (first | simp only [go_sem, Nat.reduceLT, Nat.reduceEqDiff, Nat.reduceAdd, Nat.reduceMul, Nat.reduceSub, Nat.reduceLeDiff, Int.reduceToNat, Int.reduceNeg, Int.reduceLT, Int.reduceLE, Int.reduceEq, reduceCtorEq, Int.natCast_zero, Int.natCast_one, Int.cast_ofNat_Int, Bool.not_not, false_eq_decide, true_eq_decide, hread0, hreadk, read_cons0, read_consk, astore_h0, astore_hk, hget0, hgetk, hset0, hsetk, hlen, hcat, Nat.add_assoc, Nat.add_zero, Nat.zero_add, List.length_append, and_true, true_and, AV.flat, *, -hK, -hgd, -hlt, -kG, -hfit, -hkl, -kd, -hbad, -back, -fd, -htl, -hk] | with_reducible refine IfB_dec (fun h => ?_) (fun h => ?_) | with_reducible refine Guard_dec (fun h => ?_) (fun h => ?_) | with_reducible refine Guard_ndec (fun h => ?_) (fun h => ?_) | with_reducible refine Guard_not (fun h => ?_) (fun h => ?_) | with_reducible refine IfB_ndec (fun h => ?_) (fun h => ?_) | with_reducible refine IfB_not (fun h => ?_) (fun h => ?_) | with_reducible refine Guard_split (fun h => ?_) (fun h => ?_) | with_reducible refine IfB_split (fun h => ?_) (fun h => ?_))
    exact back _ (by (repeat (first | exact hs | refine hA _ _ _ (by decide) ?_))) (by simp only [go_sem, Nat.reduceLT, Nat.reduceEqDiff, Nat.reduceAdd, Nat.reduceMul, Nat.reduceSub, Nat.reduceLeDiff, Int.reduceToNat, Int.reduceNeg, Int.reduceLT, Int.reduceLE, Int.reduceEq, reduceCtorEq])
end Go.Proofs.Ytakllaigpjbgdaa
