import Derived.Test.YtakllaigpjbgdaaLruT1
set_option linter.unusedSimpArgs false
set_option linter.unusedVariables false
set_option maxRecDepth 100000
set_option maxHeartbeats 4000000
namespace Go.Proofs.Ytakllaigpjbgdaa
open Go Go.Proofs Go.Proofs.PI
theorem rFirst_spec (s : List UInt8) (l : List (List UInt8)) (hl : l.length ≤ 1000000) (H : Heap) : WC Try.prog 41 [.str s, Enc.str.lst l] H fun r H' => r = Enc.str.lst (s :: l) ∧ H' = H := by
  refine WC_val fun K hK => ?_
  refine WC_of_body hT Try.func41 rfl (by simp [Try.f41]) (by simp [Try.f41]) (wx_sound hT _ ?_)
  simp only [Try.f41]
  repeat' (first | simp only [go_sem, Nat.reduceLT, Nat.reduceEqDiff, Nat.reduceAdd, Nat.reduceMul, Nat.reduceSub, Nat.reduceLeDiff, Int.reduceToNat, Int.reduceNeg, Int.reduceLT, Int.reduceLE, Int.reduceEq, reduceCtorEq, Int.natCast_zero, Int.natCast_one, Int.cast_ofNat_Int, Bool.not_not, false_eq_decide, true_eq_decide, hread0, hreadk, read_cons0, read_consk, astore_h0, astore_hk, hget0, hgetk, hset0, hsetk, hlen, hcat, Nat.add_assoc, Nat.add_zero, Nat.zero_add, List.length_append, and_true, true_and, AV.flat, *, -hK] | with_reducible refine IfB_dec (fun h => ?_) (fun h => ?_) | with_reducible refine Guard_dec (fun h => ?_) (fun h => ?_) | with_reducible refine Guard_ndec (fun h => ?_) (fun h => ?_) | with_reducible refine Guard_not (fun h => ?_) (fun h => ?_) | with_reducible refine IfB_ndec (fun h => ?_) (fun h => ?_) | with_reducible refine IfB_not (fun h => ?_) (fun h => ?_) | with_reducible refine Guard_split (fun h => ?_) (fun h => ?_) | with_reducible refine IfB_split (fun h => ?_) (fun h => ?_))
  refine append_enc (E := Enc.str) (xs := [s]) (ys := l) (m := H.length) (Own.whole (st := .full) (Nat.le_refl _) (by simp; exact ⟨rfl, rfl⟩) rfl rfl) se22 az9 td9 (src_enc tk22) (by decide) (by show (1 + l.length) * 17 ≤ _; omega) (by simp) ?_
  intro v1 J1 o1 k1 hn1
  have hv1 := o1.one
  repeat' (first | simp only [go_sem, Nat.reduceLT, Nat.reduceEqDiff, Nat.reduceAdd, Nat.reduceMul, Nat.reduceSub, Nat.reduceLeDiff, Int.reduceToNat, Int.reduceNeg, Int.reduceLT, Int.reduceLE, Int.reduceEq, reduceCtorEq, Int.natCast_zero, Int.natCast_one, Int.cast_ofNat_Int, Bool.not_not, false_eq_decide, true_eq_decide, hread0, hreadk, read_cons0, read_consk, astore_h0, astore_hk, hget0, hgetk, hset0, hsetk, hlen, hcat, Nat.add_assoc, Nat.add_zero, Nat.zero_add, List.length_append, and_true, true_and, AV.flat, hv1, one_solid hv1, one_cells hv1, *, -hK, -o1, -k1, -hn1] | with_reducible refine IfB_dec (fun h => ?_) (fun h => ?_) | with_reducible refine Guard_dec (fun h => ?_) (fun h => ?_) | with_reducible refine Guard_ndec (fun h => ?_) (fun h => ?_) | with_reducible refine Guard_not (fun h => ?_) (fun h => ?_) | with_reducible refine IfB_ndec (fun h => ?_) (fun h => ?_) | with_reducible refine IfB_not (fun h => ?_) (fun h => ?_) | with_reducible refine Guard_split (fun h => ?_) (fun h => ?_) | with_reducible refine IfB_split (fun h => ?_) (fun h => ?_))
  exact hK _ _ (OwnE.thaw (E := Enc.str) o1 (by decide)) ⟨by have := k1.len; simp at this; omega, fun c hc _ => by rw [k1.at_ c (by simp; omega) (by simp only [AV.blk, ne_eq, Option.some.injEq]; omega), List.getElem?_append_left hc]⟩
def wo (l : List (List UInt8)) (s : List UInt8) : List (List UInt8) := l.filter fun x => decide (x ≠ s)
theorem wo_step {l : List (List UInt8)} {s : List UInt8} {i : Nat} (h : i < l.length) : wo (l.take (i + 1)) s = wo (l.take i) s ++ if l[i] = s then [] else [l[i]] := by
  unfold wo
  rw [List.take_succ_eq_append_getElem h, List.filter_append]
  congr 1
  by_cases hh : l[i] = s <;> simp [hh]
theorem rWithout_spec (l : List (List UInt8)) (s : List UInt8) (hl : l.length ≤ 1000000) (H : Heap) : WC Try.prog 50 [Enc.str.lst l, .str s] H fun r H' => r = Enc.str.lst (wo l s) ∧ H' = H := by
  refine WC_val fun K hK => ?_
  refine WC_of_body hT Try.func50 rfl (by simp [Try.f50]) (by simp [Try.f50]) (wx_sound hT _ ?_)
  simp only [Try.f50]
  repeat' (first | simp only [go_sem, Nat.reduceLT, Nat.reduceEqDiff, Nat.reduceAdd, Nat.reduceMul, Nat.reduceSub, Nat.reduceLeDiff, Int.reduceToNat, Int.reduceNeg, Int.reduceLT, Int.reduceLE, Int.reduceEq, reduceCtorEq, Int.natCast_zero, Int.natCast_one, Int.cast_ofNat_Int, Bool.not_not, false_eq_decide, true_eq_decide, hread0, hreadk, read_cons0, read_consk, astore_h0, astore_hk, hget0, hgetk, hset0, hsetk, hlen, hcat, Nat.add_assoc, Nat.add_zero, Nat.zero_add, List.length_append, and_true, true_and, AV.flat, *, -hK] | with_reducible refine IfB_dec (fun h => ?_) (fun h => ?_) | with_reducible refine Guard_dec (fun h => ?_) (fun h => ?_) | with_reducible refine Guard_ndec (fun h => ?_) (fun h => ?_) | with_reducible refine Guard_not (fun h => ?_) (fun h => ?_) | with_reducible refine IfB_ndec (fun h => ?_) (fun h => ?_) | with_reducible refine IfB_not (fun h => ?_) (fun h => ?_) | with_reducible refine Guard_split (fun h => ?_) (fun h => ?_) | with_reducible refine IfB_split (fun h => ?_) (fun h => ?_))
  refine WX_loopS [0, 1] (fun kn fr' J => ∃ (i : Nat) (w : AV), kn = l.length - i ∧ i ≤ l.length ∧ fr'.get 6 = .int .i64 i ∧ fr'.get 5 = w ∧ OwnE Enc.str H.length J w (wo (l.take i) s) ∧ Keep none H J) l.length ⟨0, .nils, rfl, by omega, by simp only [go_sem, Nat.reduceLT, Nat.reduceEqDiff, Nat.reduceAdd, Nat.reduceMul, Nat.reduceSub, Nat.reduceLeDiff, Int.reduceToNat, Int.reduceNeg, Int.reduceLT, Int.reduceLE, Int.reduceEq, reduceCtorEq]; rfl, by simp only [go_sem, Nat.reduceLT, Nat.reduceEqDiff, Nat.reduceAdd, Nat.reduceMul, Nat.reduceSub, Nat.reduceLeDiff, Int.reduceToNat, Int.reduceNeg, Int.reduceLT, Int.reduceLE, Int.reduceEq, reduceCtorEq], OwnE.nils _ _ _, Keep.refl _ _⟩ ?_
  rintro kn fr' J A R hA hs hg hR ⟨i, w, rfl, hi, f6, f5, ow, kJ⟩
  have s0 := hg 0 (by decide)
  have s1 := hg 1 (by decide)
  simp only [Fr.get_put, Fr.get_init, List.getD_cons_zero, List.getD_cons_succ, Nat.reduceEqDiff, if_true, if_false] at s0 s1
  refine wx_sound hT _ ?_
  have hwo := ow.one
  by_cases hlt : i < l.length
  rotate_left
  · have i1 : ¬ (i : Int) < l.length := by omega
    rw [List.take_of_length_le (by omega)] at ow
    repeat' (first | simp only [go_sem, Nat.reduceLT, Nat.reduceEqDiff, Nat.reduceAdd, Nat.reduceMul, Nat.reduceSub, Nat.reduceLeDiff, Int.reduceToNat, Int.reduceNeg, Int.reduceLT, Int.reduceLE, Int.reduceEq, reduceCtorEq, Int.natCast_zero, Int.natCast_one, Int.cast_ofNat_Int, Bool.not_not, false_eq_decide, true_eq_decide, hread0, hreadk, read_cons0, read_consk, astore_h0, astore_hk, hget0, hgetk, hset0, hsetk, hlen, hcat, Nat.add_assoc, Nat.add_zero, Nat.zero_add, List.length_append, and_true, true_and, AV.flat, hwo, one_solid hwo, one_cells hwo, *, -hK, -ow, -kJ, -hlt] | with_reducible refine IfB_dec (fun h => ?_) (fun h => ?_) | with_reducible refine Guard_dec (fun h => ?_) (fun h => ?_) | with_reducible refine Guard_ndec (fun h => ?_) (fun h => ?_) | with_reducible refine Guard_not (fun h => ?_) (fun h => ?_) | with_reducible refine IfB_ndec (fun h => ?_) (fun h => ?_) | with_reducible refine IfB_not (fun h => ?_) (fun h => ?_) | with_reducible refine Guard_split (fun h => ?_) (fun h => ?_) | with_reducible refine IfB_split (fun h => ?_) (fun h => ?_))
    exact hK _ _ (OwnE.thaw (E := Enc.str) ow (by decide)) kJ
  have i1 : (i : Int) < l.length := by omega
  have e3 := inc_id hlt (by omega)
  have e1 := at_enc (E := Enc.str) (T := T) (k := .i64) se22 hlt rfl
  rw [str_cells] at e1
  have hst := wo_step (s := s) hlt
  have hwl : (wo (l.take i) s).length ≤ 1000000 := by have := List.length_filter_le (fun x => decide (x ≠ s)) (l.take i); rw [List.length_take] at this; unfold wo; omega
  have back : ∀ fr2 J2 w2, A fr2 → fr2.get 6 = .int .i64 ((i + 1 : Nat) : Int) → fr2.get 5 = w2 → OwnE Enc.str H.length J2 w2 (wo (l.take (i + 1)) s) → Keep none H J2 → R fr2 J2 := fun fr2 J2 w2 ha q1 q2 q3 q4 => hR fr2 J2 ha (l.length - (i + 1)) (by omega) ⟨i + 1, w2, rfl, by omega, q1, q2, q3, q4⟩
  rw [hst] at back
  clear hR hst
  generalize l[i] = x at *
  generalize wo (l.take i) s = acc at *
  have hJl := kJ.len
  by_cases hx : x = s
  · rw [if_pos hx, List.append_nil] at back
    repeat' (first | simp only [go_sem, Nat.reduceLT, Nat.reduceEqDiff, Nat.reduceAdd, Nat.reduceMul, Nat.reduceSub, Nat.reduceLeDiff, Int.reduceToNat, Int.reduceNeg, Int.reduceLT, Int.reduceLE, Int.reduceEq, reduceCtorEq, Int.natCast_zero, Int.natCast_one, Int.cast_ofNat_Int, Bool.not_not, false_eq_decide, true_eq_decide, hread0, hreadk, read_cons0, read_consk, astore_h0, astore_hk, hget0, hgetk, hset0, hsetk, hlen, hcat, Nat.add_assoc, Nat.add_zero, Nat.zero_add, List.length_append, and_true, true_and, AV.flat, hwo, one_solid hwo, one_cells hwo, *, -hK, -ow, -kJ, -hlt, -back, -hwl, -hJl] | with_reducible refine IfB_dec (fun h => ?_) (fun h => ?_) | with_reducible refine Guard_dec (fun h => ?_) (fun h => ?_) | with_reducible refine Guard_ndec (fun h => ?_) (fun h => ?_) | with_reducible refine Guard_not (fun h => ?_) (fun h => ?_) | with_reducible refine IfB_ndec (fun h => ?_) (fun h => ?_) | with_reducible refine IfB_not (fun h => ?_) (fun h => ?_) | with_reducible refine Guard_split (fun h => ?_) (fun h => ?_) | with_reducible refine IfB_split (fun h => ?_) (fun h => ?_))
    exact back _ _ w (by (repeat (first | exact hs | refine hA _ _ _ (by decide) ?_))) (by simp only [go_sem, Nat.reduceLT, Nat.reduceEqDiff, Nat.reduceAdd, Nat.reduceMul, Nat.reduceSub, Nat.reduceLeDiff, Int.reduceToNat, Int.reduceNeg, Int.reduceLT, Int.reduceLE, Int.reduceEq, reduceCtorEq]) (by simp only [go_sem, Nat.reduceLT, Nat.reduceEqDiff, Nat.reduceAdd, Nat.reduceMul, Nat.reduceSub, Nat.reduceLeDiff, Int.reduceToNat, Int.reduceNeg, Int.reduceLT, Int.reduceLE, Int.reduceEq, reduceCtorEq]; exact f5) ow kJ
  · rw [if_neg hx] at back
    repeat' (first | simp only [go_sem, Nat.reduceLT, Nat.reduceEqDiff, Nat.reduceAdd, Nat.reduceMul, Nat.reduceSub, Nat.reduceLeDiff, Int.reduceToNat, Int.reduceNeg, Int.reduceLT, Int.reduceLE, Int.reduceEq, reduceCtorEq, Int.natCast_zero, Int.natCast_one, Int.cast_ofNat_Int, Bool.not_not, false_eq_decide, true_eq_decide, hread0, hreadk, read_cons0, read_consk, astore_h0, astore_hk, hget0, hgetk, hset0, hsetk, hlen, hcat, Nat.add_assoc, Nat.add_zero, Nat.zero_add, List.length_append, and_true, true_and, AV.flat, hwo, one_solid hwo, one_cells hwo, *, -hK, -ow, -kJ, -hlt, -back, -hwl, -hJl] | with_reducible refine IfB_dec (fun h => ?_) (fun h => ?_) | with_reducible refine Guard_dec (fun h => ?_) (fun h => ?_) | with_reducible refine Guard_ndec (fun h => ?_) (fun h => ?_) | with_reducible refine Guard_not (fun h => ?_) (fun h => ?_) | with_reducible refine IfB_ndec (fun h => ?_) (fun h => ?_) | with_reducible refine IfB_not (fun h => ?_) (fun h => ?_) | with_reducible refine Guard_split (fun h => ?_) (fun h => ?_) | with_reducible refine IfB_split (fun h => ?_) (fun h => ?_))
    refine append1_enc (E := Enc.str) (x := x) ow rfl se22 az9 td9 tk22 rfl rfl (by decide) (by show (acc.length + 1) * 17 ≤ _; omega) hJl ?_
    intro v5 H5 o5 k5 hn5
    have hv5 := o5.one
    repeat' (first | simp only [go_sem, Nat.reduceLT, Nat.reduceEqDiff, Nat.reduceAdd, Nat.reduceMul, Nat.reduceSub, Nat.reduceLeDiff, Int.reduceToNat, Int.reduceNeg, Int.reduceLT, Int.reduceLE, Int.reduceEq, reduceCtorEq, Int.natCast_zero, Int.natCast_one, Int.cast_ofNat_Int, Bool.not_not, false_eq_decide, true_eq_decide, hread0, hreadk, read_cons0, read_consk, astore_h0, astore_hk, hget0, hgetk, hset0, hsetk, hlen, hcat, Nat.add_assoc, Nat.add_zero, Nat.zero_add, List.length_append, and_true, true_and, AV.flat, hv5, one_solid hv5, one_cells hv5, *, -hK, -ow, -kJ, -hlt, -back, -hwl, -hJl, -o5, -k5, -hn5] | with_reducible refine IfB_dec (fun h => ?_) (fun h => ?_) | with_reducible refine Guard_dec (fun h => ?_) (fun h => ?_) | with_reducible refine Guard_ndec (fun h => ?_) (fun h => ?_) | with_reducible refine Guard_not (fun h => ?_) (fun h => ?_) | with_reducible refine IfB_ndec (fun h => ?_) (fun h => ?_) | with_reducible refine IfB_not (fun h => ?_) (fun h => ?_) | with_reducible refine Guard_split (fun h => ?_) (fun h => ?_) | with_reducible refine IfB_split (fun h => ?_) (fun h => ?_))
    exact back _ _ _ (by (repeat (first | exact hs | refine hA _ _ _ (by decide) ?_))) (by simp only [go_sem, Nat.reduceLT, Nat.reduceEqDiff, Nat.reduceAdd, Nat.reduceMul, Nat.reduceSub, Nat.reduceLeDiff, Int.reduceToNat, Int.reduceNeg, Int.reduceLT, Int.reduceLE, Int.reduceEq, reduceCtorEq]) rfl (by simp only [go_sem, Nat.reduceLT, Nat.reduceEqDiff, Nat.reduceAdd, Nat.reduceMul, Nat.reduceSub, Nat.reduceLeDiff, Int.reduceToNat, Int.reduceNeg, Int.reduceLT, Int.reduceLE, Int.reduceEq, reduceCtorEq]; exact o5) (kJ.via k5 (fun b hb => by have := ow.ge hb; omega))
def outO (o : Ord) (s : List UInt8) : Ord := ⟨wo o.t s, wo o.k s⟩
theorem wo_mem {l : List (List UInt8)} (h : l.Nodup) (s : List UInt8) : wo l s = l.erase s := by
  rw [h.erase_eq_filter]
  unfold wo
  exact List.filter_congr fun x _ => by rw [Bool.eq_iff_iff]; simp
theorem outO_take {o : Ord} (hm : o.may) {s : List UInt8} (hs : s ∈ keysO o) : outO o s = takeO o s := by
  have hn := (may_good hm).2
  unfold keysO at hn
  rw [List.nodup_append] at hn
  obtain ⟨n1, n2, n3⟩ := hn
  unfold outO takeO
  rw [wo_mem n1, wo_mem n2]
  by_cases h1 : s ∈ o.t
  · rw [if_pos h1, List.erase_of_not_mem (l := o.k) (fun h => n3 s h1 s h rfl)]
  · rw [if_neg h1, List.erase_of_not_mem h1]
theorem rOut_spec (o : Ord) (hf : o.fit) (s : List UInt8) (H : Heap) : WC Try.prog 42 [o.av, .str s] H fun r H' => r = (outO o s).av ∧ H' = H := by
  refine WC_val fun K hK => ?_
  have c1 := fun J => rWithout_spec o.t s (by have := hf.1; omega) J
  have c2 := fun J => rWithout_spec o.k s (by have := hf.2; omega) J
  unfold outO Ord.av at *
  simp only at hK
  generalize wo o.t s = l1 at *
  generalize wo o.k s = l2 at *
  refine WC_of_body hT Try.func42 rfl (by simp [Try.f42]) (by simp [Try.f42]) (wx_sound hT _ ?_)
  simp only [Try.f42]
  repeat' (first | simp only [go_sem, Nat.reduceLT, Nat.reduceEqDiff, Nat.reduceAdd, Nat.reduceMul, Nat.reduceSub, Nat.reduceLeDiff, Int.reduceToNat, Int.reduceNeg, Int.reduceLT, Int.reduceLE, Int.reduceEq, reduceCtorEq, Int.natCast_zero, Int.natCast_one, Int.cast_ofNat_Int, Bool.not_not, false_eq_decide, true_eq_decide, hread0, hreadk, read_cons0, read_consk, astore_h0, astore_hk, hget0, hgetk, hset0, hsetk, hlen, hcat, Nat.add_assoc, Nat.add_zero, Nat.zero_add, List.length_append, and_true, true_and, AV.flat, *, -hK, -c1, -c2, -hf] | with_reducible refine IfB_dec (fun h => ?_) (fun h => ?_) | with_reducible refine Guard_dec (fun h => ?_) (fun h => ?_) | with_reducible refine Guard_ndec (fun h => ?_) (fun h => ?_) | with_reducible refine Guard_not (fun h => ?_) (fun h => ?_) | with_reducible refine IfB_ndec (fun h => ?_) (fun h => ?_) | with_reducible refine IfB_not (fun h => ?_) (fun h => ?_) | with_reducible refine Guard_split (fun h => ?_) (fun h => ?_) | with_reducible refine IfB_split (fun h => ?_) (fun h => ?_))
  refine WX_rows hT hmix [(0, none), (1, none), (2, none), (4, none), (5, none), (6, none), (3, some [false, false, false, true, true, true]), (7, some [true, true, true, true, true, true, true]), (8, none), (9, some [true, true, true, true, true, true, true, true, true])] (by kernel_rfl) ?_
  repeat' (first | simp only [go_sem, Nat.reduceLT, Nat.reduceEqDiff, Nat.reduceAdd, Nat.reduceMul, Nat.reduceSub, Nat.reduceLeDiff, Int.reduceToNat, Int.reduceNeg, Int.reduceLT, Int.reduceLE, Int.reduceEq, reduceCtorEq, Int.natCast_zero, Int.natCast_one, Int.cast_ofNat_Int, Bool.not_not, false_eq_decide, true_eq_decide, hread0, hreadk, read_cons0, read_consk, astore_h0, astore_hk, hget0, hgetk, hset0, hsetk, hlen, hcat, Nat.add_assoc, Nat.add_zero, Nat.zero_add, List.length_append, and_true, true_and, AV.flat, *, -hK, -c1, -c2, -hf] | refine WC.call (c1 _) ?_ | refine WC.call (c2 _) ?_ | with_reducible refine IfB_dec (fun h => ?_) (fun h => ?_) | with_reducible refine Guard_dec (fun h => ?_) (fun h => ?_) | with_reducible refine Guard_ndec (fun h => ?_) (fun h => ?_) | with_reducible refine Guard_not (fun h => ?_) (fun h => ?_) | with_reducible refine IfB_ndec (fun h => ?_) (fun h => ?_) | with_reducible refine IfB_not (fun h => ?_) (fun h => ?_) | with_reducible refine Guard_split (fun h => ?_) (fun h => ?_) | with_reducible refine IfB_split (fun h => ?_) (fun h => ?_))
  exact hK _ _ (Thaw.agg_row ⟨.atom _ rfl, .atom _ rfl, trivial⟩) (Keep.app _ _ _)
theorem rAsked_spec (o : Ord) (hf : o.fit) (s : List UInt8) (H : Heap) : WC Try.prog 38 [o.av, .str s] H fun r H' => r = .int .i64 (askE o s) ∧ H' = H := by
  refine WC_val fun K hK => ?_
  have ck := fun J => rCheck_spec o hf J
  have kd := fun J => rKey_spec s J
  by_cases hm : o.may
  rotate_left
  · rw [ordE_bad hm] at ck
    rw [show askE o s = 8 by unfold askE; rw [if_pos hm]] at hK
    unfold Ord.av at *
    refine WC_of_body hT Try.func38 rfl (by simp [Try.f38]) (by simp [Try.f38]) (wx_sound hT _ ?_)
    simp only [Try.f38]
    repeat' (first | simp only [go_sem, Nat.reduceLT, Nat.reduceEqDiff, Nat.reduceAdd, Nat.reduceMul, Nat.reduceSub, Nat.reduceLeDiff, Int.reduceToNat, Int.reduceNeg, Int.reduceLT, Int.reduceLE, Int.reduceEq, reduceCtorEq, Int.natCast_zero, Int.natCast_one, Int.cast_ofNat_Int, Bool.not_not, false_eq_decide, true_eq_decide, hread0, hreadk, read_cons0, read_consk, astore_h0, astore_hk, hget0, hgetk, hset0, hsetk, hlen, hcat, Nat.add_assoc, Nat.add_zero, Nat.zero_add, List.length_append, and_true, true_and, AV.flat, *, -hK, -ck, -kd, -hf, -hm] | refine WC.call (ck _) ?_ | with_reducible refine IfB_dec (fun h => ?_) (fun h => ?_) | with_reducible refine Guard_dec (fun h => ?_) (fun h => ?_) | with_reducible refine Guard_ndec (fun h => ?_) (fun h => ?_) | with_reducible refine Guard_not (fun h => ?_) (fun h => ?_) | with_reducible refine IfB_ndec (fun h => ?_) (fun h => ?_) | with_reducible refine IfB_not (fun h => ?_) (fun h => ?_) | with_reducible refine Guard_split (fun h => ?_) (fun h => ?_) | with_reducible refine IfB_split (fun h => ?_) (fun h => ?_))
    exact hK _ _ (.int _ _) (Keep.app _ _ _)
  rw [ordE_ok hm] at ck
  cases hk : kOk s with
  | false =>
    rw [hk] at kd
    rw [show askE o s = 3 by unfold askE; rw [if_neg (not_not_intro hm), if_pos hk]] at hK
    unfold Ord.av at *
    refine WC_of_body hT Try.func38 rfl (by simp [Try.f38]) (by simp [Try.f38]) (wx_sound hT _ ?_)
    simp only [Try.f38]
    repeat' (first | simp only [go_sem, Nat.reduceLT, Nat.reduceEqDiff, Nat.reduceAdd, Nat.reduceMul, Nat.reduceSub, Nat.reduceLeDiff, Int.reduceToNat, Int.reduceNeg, Int.reduceLT, Int.reduceLE, Int.reduceEq, reduceCtorEq, Int.natCast_zero, Int.natCast_one, Int.cast_ofNat_Int, Bool.not_not, false_eq_decide, true_eq_decide, hread0, hreadk, read_cons0, read_consk, astore_h0, astore_hk, hget0, hgetk, hset0, hsetk, hlen, hcat, Nat.add_assoc, Nat.add_zero, Nat.zero_add, List.length_append, and_true, true_and, AV.flat, *, -hK, -ck, -kd, -hf, -hm, -hk] | refine WC.call (ck _) ?_ | refine WC.call (kd _) ?_ | with_reducible refine IfB_dec (fun h => ?_) (fun h => ?_) | with_reducible refine Guard_dec (fun h => ?_) (fun h => ?_) | with_reducible refine Guard_ndec (fun h => ?_) (fun h => ?_) | with_reducible refine Guard_not (fun h => ?_) (fun h => ?_) | with_reducible refine IfB_ndec (fun h => ?_) (fun h => ?_) | with_reducible refine IfB_not (fun h => ?_) (fun h => ?_) | with_reducible refine Guard_split (fun h => ?_) (fun h => ?_) | with_reducible refine IfB_split (fun h => ?_) (fun h => ?_))
    exact hK _ _ (.int _ _) (Keep.app _ _ _)
  | true =>
    rw [hk] at kd
    rw [show askE o s = 0 by unfold askE; rw [if_neg (not_not_intro hm), if_neg (by rw [hk]; decide)]] at hK
    unfold Ord.av at *
    refine WC_of_body hT Try.func38 rfl (by simp [Try.f38]) (by simp [Try.f38]) (wx_sound hT _ ?_)
    simp only [Try.f38]
    repeat' (first | simp only [go_sem, Nat.reduceLT, Nat.reduceEqDiff, Nat.reduceAdd, Nat.reduceMul, Nat.reduceSub, Nat.reduceLeDiff, Int.reduceToNat, Int.reduceNeg, Int.reduceLT, Int.reduceLE, Int.reduceEq, reduceCtorEq, Int.natCast_zero, Int.natCast_one, Int.cast_ofNat_Int, Bool.not_not, false_eq_decide, true_eq_decide, hread0, hreadk, read_cons0, read_consk, astore_h0, astore_hk, hget0, hgetk, hset0, hsetk, hlen, hcat, Nat.add_assoc, Nat.add_zero, Nat.zero_add, List.length_append, and_true, true_and, AV.flat, *, -hK, -ck, -kd, -hf, -hm, -hk] | refine WC.call (ck _) ?_ | refine WC.call (kd _) ?_ | with_reducible refine IfB_dec (fun h => ?_) (fun h => ?_) | with_reducible refine Guard_dec (fun h => ?_) (fun h => ?_) | with_reducible refine Guard_ndec (fun h => ?_) (fun h => ?_) | with_reducible refine Guard_not (fun h => ?_) (fun h => ?_) | with_reducible refine IfB_ndec (fun h => ?_) (fun h => ?_) | with_reducible refine IfB_not (fun h => ?_) (fun h => ?_) | with_reducible refine Guard_split (fun h => ?_) (fun h => ?_) | with_reducible refine IfB_split (fun h => ?_) (fun h => ?_))
    exact hK _ _ (.int _ _) (Keep.app _ _ _)
theorem inO_mem {o : Ord} {s : List UInt8} : inO o s = true ↔ s ∈ keysO o := by
  unfold inO
  rw [Bool.or_eq_true, decide_eq_true_eq, decide_eq_true_eq]
  exact mem_keys.symm
theorem rAdd_spec (o : Ord) (hf : o.fit) (s : List UInt8) (H : Heap) : WC Try.prog 23 [o.av, .str s] H fun r H' => r = .tup [(addO o s).av, .int .i64 (addE o s)] ∧ H' = H := by
  refine WC_val fun K hK => ?_
  have ak := fun J => rAsked_spec o hf s J
  have al := fun J => rAllK_spec o hf J
  have hkl : (keysO o).length ≤ 1000000 := by unfold keysO; rw [List.length_append]; have := hf.1; have := hf.2; omega
  have hkt : (keysO o).length = o.t.length + o.k.length := by unfold keysO; rw [List.length_append]
  have fd := fun J => rFind_spec (keysO o) s hkl J
  by_cases hE : askE o s = 0
  rotate_left
  · have hA : addE o s = askE o s := by unfold addE; rw [if_pos hE]
    rw [hA, show addO o s = ord0 by unfold addO; rw [if_neg (by rw [hA]; exact hE)]] at hK
    generalize askE o s = e at *
    unfold Ord.av at *
    refine WC_of_body hT Try.func23 rfl (by simp [Try.f23]) (by simp [Try.f23]) (wx_sound hT _ ?_)
    simp only [Try.f23]
    repeat' (first | simp only [go_sem, Nat.reduceLT, Nat.reduceEqDiff, Nat.reduceAdd, Nat.reduceMul, Nat.reduceSub, Nat.reduceLeDiff, Int.reduceToNat, Int.reduceNeg, Int.reduceLT, Int.reduceLE, Int.reduceEq, reduceCtorEq, Int.natCast_zero, Int.natCast_one, Int.cast_ofNat_Int, Bool.not_not, false_eq_decide, true_eq_decide, hread0, hreadk, read_cons0, read_consk, astore_h0, astore_hk, hget0, hgetk, hset0, hsetk, hlen, hcat, Nat.add_assoc, Nat.add_zero, Nat.zero_add, List.length_append, and_true, true_and, AV.flat, *, -hK, -ak, -al, -fd, -hf, -hkl, -hkt, -hA] | refine WC.call (ak _) ?_ | with_reducible refine IfB_dec (fun h => ?_) (fun h => ?_) | with_reducible refine Guard_dec (fun h => ?_) (fun h => ?_) | with_reducible refine Guard_ndec (fun h => ?_) (fun h => ?_) | with_reducible refine Guard_not (fun h => ?_) (fun h => ?_) | with_reducible refine IfB_ndec (fun h => ?_) (fun h => ?_) | with_reducible refine IfB_not (fun h => ?_) (fun h => ?_) | with_reducible refine Guard_split (fun h => ?_) (fun h => ?_) | with_reducible refine IfB_split (fun h => ?_) (fun h => ?_))
    exact hK _ _ (Thaw.tup_row ⟨Thaw.agg_row ⟨.nils, .nils, trivial⟩, .int _ _, trivial⟩) (Keep.app _ _ _)
  rw [hE] at ak
  have hA0 : addE o s = if inO o s = true then 2 else if o.t.length + o.k.length = 256 then 9 else 0 := by unfold addE; rw [if_neg (by rw [hE]; decide)]
  have fr := fun J => rFirst_spec s o.t (by have := hf.1; omega) J
  have hks : s ∈ keysO o ↔ inO o s = true := inO_mem.symm
  have hf2 := hf.2
  unfold Ord.av at *
  generalize keysO o = L at *
  refine WC_of_body hT Try.func23 rfl (by simp [Try.f23]) (by simp [Try.f23]) (wx_sound hT _ ?_)
  simp only [Try.f23]
  repeat' (first | simp only [go_sem, Nat.reduceLT, Nat.reduceEqDiff, Nat.reduceAdd, Nat.reduceMul, Nat.reduceSub, Nat.reduceLeDiff, Int.reduceToNat, Int.reduceNeg, Int.reduceLT, Int.reduceLE, Int.reduceEq, reduceCtorEq, Int.natCast_zero, Int.natCast_one, Int.cast_ofNat_Int, Bool.not_not, false_eq_decide, true_eq_decide, hread0, hreadk, read_cons0, read_consk, astore_h0, astore_hk, hget0, hgetk, hset0, hsetk, hlen, hcat, Nat.add_assoc, Nat.add_zero, Nat.zero_add, List.length_append, and_true, true_and, AV.flat, *, -hK, -ak, -al, -fd, -hf, -hkl, -hkt, -hE, -hA0, -fr, -hks, -hf2] | refine WC.call (ak _) ?_ | refine WC.call (al _) ?_ | with_reducible refine IfB_dec (fun h => ?_) (fun h => ?_) | with_reducible refine Guard_dec (fun h => ?_) (fun h => ?_) | with_reducible refine Guard_ndec (fun h => ?_) (fun h => ?_) | with_reducible refine Guard_not (fun h => ?_) (fun h => ?_) | with_reducible refine IfB_ndec (fun h => ?_) (fun h => ?_) | with_reducible refine IfB_not (fun h => ?_) (fun h => ?_) | with_reducible refine Guard_split (fun h => ?_) (fun h => ?_) | with_reducible refine IfB_split (fun h => ?_) (fun h => ?_))
  refine (fd _).mono ?_
  rintro _ J9 ⟨⟨n, rfl, hn⟩, rfl⟩
  rcases hn with ⟨hm, hn1, hn2⟩ | ⟨hm, rfl⟩
  · rw [hks.1 hm, if_pos rfl] at hA0
    rw [hA0, show addO o s = ord0 by unfold addO; rw [if_neg (by rw [hA0]; decide)]] at hK
    clear hm
    repeat' (first | simp only [go_sem, Nat.reduceLT, Nat.reduceEqDiff, Nat.reduceAdd, Nat.reduceMul, Nat.reduceSub, Nat.reduceLeDiff, Int.reduceToNat, Int.reduceNeg, Int.reduceLT, Int.reduceLE, Int.reduceEq, reduceCtorEq, Int.natCast_zero, Int.natCast_one, Int.cast_ofNat_Int, Bool.not_not, false_eq_decide, true_eq_decide, hread0, hreadk, read_cons0, read_consk, astore_h0, astore_hk, hget0, hgetk, hset0, hsetk, hlen, hcat, Nat.add_assoc, Nat.add_zero, Nat.zero_add, List.length_append, and_true, true_and, AV.flat, *, -hK, -ak, -al, -fd, -hf, -hkl, -hkt, -hE, -hA0, -fr, -hks, -hf2] | with_reducible refine IfB_dec (fun h => ?_) (fun h => ?_) | with_reducible refine Guard_dec (fun h => ?_) (fun h => ?_) | with_reducible refine Guard_ndec (fun h => ?_) (fun h => ?_) | with_reducible refine Guard_not (fun h => ?_) (fun h => ?_) | with_reducible refine IfB_ndec (fun h => ?_) (fun h => ?_) | with_reducible refine IfB_not (fun h => ?_) (fun h => ?_) | with_reducible refine Guard_split (fun h => ?_) (fun h => ?_) | with_reducible refine IfB_split (fun h => ?_) (fun h => ?_))
    exact hK _ _ (Thaw.tup_row ⟨Thaw.agg_row ⟨.nils, .nils, trivial⟩, .int _ _, trivial⟩) (Keep.app _ _ _)
  have hin : inO o s = false := by
    cases h : inO o s with
    | false => rfl
    | true => exact absurd (hks.2 h) hm
  rw [hin, if_neg (by decide)] at hA0
  clear hm
  by_cases hful : (L.length : Int) = 256
  · rw [if_pos (by omega)] at hA0
    rw [hA0, show addO o s = ord0 by unfold addO; rw [if_neg (by rw [hA0]; decide)]] at hK
    repeat' (first | simp only [go_sem, Nat.reduceLT, Nat.reduceEqDiff, Nat.reduceAdd, Nat.reduceMul, Nat.reduceSub, Nat.reduceLeDiff, Int.reduceToNat, Int.reduceNeg, Int.reduceLT, Int.reduceLE, Int.reduceEq, reduceCtorEq, Int.natCast_zero, Int.natCast_one, Int.cast_ofNat_Int, Bool.not_not, false_eq_decide, true_eq_decide, hread0, hreadk, read_cons0, read_consk, astore_h0, astore_hk, hget0, hgetk, hset0, hsetk, hlen, hcat, Nat.add_assoc, Nat.add_zero, Nat.zero_add, List.length_append, and_true, true_and, AV.flat, *, -hK, -ak, -al, -fd, -hf, -hkl, -hkt, -hE, -hA0, -fr, -hks, -hf2, -hin] | refine WC.call (al _) ?_ | with_reducible refine IfB_dec (fun h => ?_) (fun h => ?_) | with_reducible refine Guard_dec (fun h => ?_) (fun h => ?_) | with_reducible refine Guard_ndec (fun h => ?_) (fun h => ?_) | with_reducible refine Guard_not (fun h => ?_) (fun h => ?_) | with_reducible refine IfB_ndec (fun h => ?_) (fun h => ?_) | with_reducible refine IfB_not (fun h => ?_) (fun h => ?_) | with_reducible refine Guard_split (fun h => ?_) (fun h => ?_) | with_reducible refine IfB_split (fun h => ?_) (fun h => ?_))
    exact hK _ _ (Thaw.tup_row ⟨Thaw.agg_row ⟨.nils, .nils, trivial⟩, .int _ _, trivial⟩) (Keep.app _ _ _)
  rw [if_neg (by omega)] at hA0
  rw [hA0, show addO o s = ⟨s :: o.t, o.k⟩ by unfold addO; rw [if_pos hA0]] at hK
  simp only at hK
  generalize s :: o.t = l1 at *
  repeat' (first | simp only [go_sem, Nat.reduceLT, Nat.reduceEqDiff, Nat.reduceAdd, Nat.reduceMul, Nat.reduceSub, Nat.reduceLeDiff, Int.reduceToNat, Int.reduceNeg, Int.reduceLT, Int.reduceLE, Int.reduceEq, reduceCtorEq, Int.natCast_zero, Int.natCast_one, Int.cast_ofNat_Int, Bool.not_not, false_eq_decide, true_eq_decide, hread0, hreadk, read_cons0, read_consk, astore_h0, astore_hk, hget0, hgetk, hset0, hsetk, hlen, hcat, Nat.add_assoc, Nat.add_zero, Nat.zero_add, List.length_append, and_true, true_and, AV.flat, *, -hK, -ak, -al, -fd, -hf, -hkl, -hkt, -hE, -hA0, -fr, -hks, -hf2, -hin] | refine WC.call (al _) ?_ | with_reducible refine IfB_dec (fun h => ?_) (fun h => ?_) | with_reducible refine Guard_dec (fun h => ?_) (fun h => ?_) | with_reducible refine Guard_ndec (fun h => ?_) (fun h => ?_) | with_reducible refine Guard_not (fun h => ?_) (fun h => ?_) | with_reducible refine IfB_ndec (fun h => ?_) (fun h => ?_) | with_reducible refine IfB_not (fun h => ?_) (fun h => ?_) | with_reducible refine Guard_split (fun h => ?_) (fun h => ?_) | with_reducible refine IfB_split (fun h => ?_) (fun h => ?_))
  refine WX_rows hT hmix [(0, none), (1, none), (2, none), (4, none), (5, none), (3, some [false, false, true, true, true]), (6, some [true, true, true, true, true, true]), (7, none), (8, some [true, true, true, true, true, true, true, true]), (9, none)] (by kernel_rfl) ?_
  repeat' (first | simp only [go_sem, Nat.reduceLT, Nat.reduceEqDiff, Nat.reduceAdd, Nat.reduceMul, Nat.reduceSub, Nat.reduceLeDiff, Int.reduceToNat, Int.reduceNeg, Int.reduceLT, Int.reduceLE, Int.reduceEq, reduceCtorEq, Int.natCast_zero, Int.natCast_one, Int.cast_ofNat_Int, Bool.not_not, false_eq_decide, true_eq_decide, hread0, hreadk, read_cons0, read_consk, astore_h0, astore_hk, hget0, hgetk, hset0, hsetk, hlen, hcat, Nat.add_assoc, Nat.add_zero, Nat.zero_add, List.length_append, and_true, true_and, AV.flat, *, -hK, -ak, -al, -fd, -hf, -hkl, -hkt, -hE, -hA0, -fr, -hks, -hf2, -hin] | refine WC.call (fr _) ?_ | with_reducible refine IfB_dec (fun h => ?_) (fun h => ?_) | with_reducible refine Guard_dec (fun h => ?_) (fun h => ?_) | with_reducible refine Guard_ndec (fun h => ?_) (fun h => ?_) | with_reducible refine Guard_not (fun h => ?_) (fun h => ?_) | with_reducible refine IfB_ndec (fun h => ?_) (fun h => ?_) | with_reducible refine IfB_not (fun h => ?_) (fun h => ?_) | with_reducible refine Guard_split (fun h => ?_) (fun h => ?_) | with_reducible refine IfB_split (fun h => ?_) (fun h => ?_))
  refine append_enc (E := Enc.str) (xs := []) (ys := o.k) (m := H.length + 2) (OwnE.nils _ _ _) se22 az9 td9 (src_enc tk22) (by decide) (by show (0 + o.k.length) * 17 ≤ _; omega) (by simp) ?_
  intro v1 J1 o1 k1 hn1
  have g0 := k1.get (b := H.length) (B := ⟨[Enc.str.lst o.t, Enc.str.lst o.k], 0, .full⟩) (by rw [hget0]; rfl) (by simp [AV.blk])
  have g1 := k1.get (b := H.length + 1) (B := ⟨[.nils, .nils], 0, .full⟩) (by rw [hgetk]; rfl) (by simp [AV.blk])
  have hv1 := o1.one
  have hl1 : H.length + 2 ≤ J1.length := by have := k1.len; simpa using this
  have o1' : OwnE Enc.str H.length (List.set J1 (H.length + 1) ⟨[Enc.str.lst l1, v1], 0, .full⟩) v1 o.k := own_same (Own.mono o1 (by omega)) fun b hb => List.getElem?_set_ne fun e => by have := o1.ge hb; omega
  have kF : Keep none H (List.set J1 (H.length + 1) ⟨[Enc.str.lst l1, v1], 0, .full⟩) := ⟨by rw [List.length_set]; omega, fun b hb _ => by rw [List.getElem?_set_ne (by omega), k1.at_ b (by simp; omega) (by simp [AV.blk]), List.getElem?_append_left hb]⟩
  repeat' (first | simp only [go_sem, Nat.reduceLT, Nat.reduceEqDiff, Nat.reduceAdd, Nat.reduceMul, Nat.reduceSub, Nat.reduceLeDiff, Int.reduceToNat, Int.reduceNeg, Int.reduceLT, Int.reduceLE, Int.reduceEq, reduceCtorEq, Int.natCast_zero, Int.natCast_one, Int.cast_ofNat_Int, Bool.not_not, false_eq_decide, true_eq_decide, hread0, hreadk, read_cons0, read_consk, astore_h0, astore_hk, hget0, hgetk, hset0, hsetk, hlen, hcat, Nat.add_assoc, Nat.add_zero, Nat.zero_add, List.length_append, and_true, true_and, AV.flat, g0, get_app g0, read_get g0, read_app g0, g1, get_app g1, read_get g1, read_app g1, astore_get g1, astore_app g1, get_set g1, get_set_app g1, read_set g1, read_set_app g1, astore_set g1, astore_set_app g1, List.set_set, hget0s, hgetks, hread0s, hreadks, List.length_set, hv1, one_solid hv1, one_cells hv1, *, -hK, -ak, -al, -fd, -hf, -hkl, -hkt, -hE, -hA0, -fr, -hks, -hf2, -hin, -o1, -k1, -hn1, -hl1, -kF] | with_reducible refine IfB_dec (fun h => ?_) (fun h => ?_) | with_reducible refine Guard_dec (fun h => ?_) (fun h => ?_) | with_reducible refine Guard_ndec (fun h => ?_) (fun h => ?_) | with_reducible refine Guard_not (fun h => ?_) (fun h => ?_) | with_reducible refine IfB_ndec (fun h => ?_) (fun h => ?_) | with_reducible refine IfB_not (fun h => ?_) (fun h => ?_) | with_reducible refine Guard_split (fun h => ?_) (fun h => ?_) | with_reducible refine IfB_split (fun h => ?_) (fun h => ?_))
  exact hK _ _ (Thaw.tup_row ⟨Thaw.agg_row ⟨.atom _ rfl, OwnE.thaw (E := Enc.str) o1' (by decide), trivial⟩, .int _ _, trivial⟩) kF
end Go.Proofs.Ytakllaigpjbgdaa
