import Derived.Test.YtakllaigpjbgdaaLruK
set_option linter.unusedSimpArgs false
set_option linter.unusedVariables false
set_option maxRecDepth 100000
set_option maxHeartbeats 4000000
namespace Go.Proofs.Ytakllaigpjbgdaa
open Go Go.Proofs Go.Proofs.PI
/-! ### how often a key stands there -/
theorem has_spec (o : Ord) (hf : o.fit) (s : List UInt8) (H : Heap) : WC Try.prog 13 [o.av, .str s] H fun r H' => r = .int .i64 ((o.t.count s + o.k.count s : Nat) : Int) ∧ H' = H := by
  refine WC_val fun K hK => ?_
  obtain ⟨t, k⟩ := o
  obtain ⟨h1, h2⟩ := hf
  simp only at h1 h2 hK
  unfold Ord.av
  simp only
  refine WC_of_body hT Try.func13 rfl (by simp [Try.f13]) (by simp [Try.f13]) (wx_sound hT _ ?_)
  simp only [Try.f13]
  repeat' (first | simp only [go_sem, Nat.reduceLT, Nat.reduceEqDiff, Nat.reduceAdd, Nat.reduceMul, Nat.reduceSub, Nat.reduceLeDiff, Int.reduceToNat, Int.reduceNeg, Int.reduceLT, Int.reduceLE, Int.reduceEq, reduceCtorEq, Int.natCast_zero, Int.natCast_one, Int.cast_ofNat_Int, Bool.not_not, false_eq_decide, true_eq_decide, hread0, hreadk, read_cons0, read_consk, astore_h0, astore_hk, hget0, hgetk, hset0, hsetk, hlen, hcat, Nat.add_assoc, Nat.add_zero, Nat.zero_add, List.length_append, and_true, true_and, AV.flat, *, -hK] | with_reducible refine IfB_dec (fun h => ?_) (fun h => ?_) | with_reducible refine Guard_dec (fun h => ?_) (fun h => ?_) | with_reducible refine Guard_ndec (fun h => ?_) (fun h => ?_) | with_reducible refine Guard_not (fun h => ?_) (fun h => ?_) | with_reducible refine IfB_ndec (fun h => ?_) (fun h => ?_) | with_reducible refine IfB_not (fun h => ?_) (fun h => ?_) | with_reducible refine Guard_split (fun h => ?_) (fun h => ?_) | with_reducible refine IfB_split (fun h => ?_) (fun h => ?_))
  have kG : Keep none H (H ++ [(⟨[Enc.str.lst t, Enc.str.lst k], 0, .full⟩ : Blk)]) := Keep.app _ _ _
  have g0 : (H ++ [(⟨[Enc.str.lst t, Enc.str.lst k], 0, .full⟩ : Blk)])[H.length]? = some ⟨[Enc.str.lst t, Enc.str.lst k], 0, .full⟩ := by simp
  generalize (H ++ [(⟨[Enc.str.lst t, Enc.str.lst k], 0, .full⟩ : Blk)] : Heap) = G at *
  refine WX_loopS [1, 2] (fun kn fr' J => ∃ i : Nat, kn = t.length - i ∧ i ≤ t.length ∧ fr'.get 6 = .int .i64 i ∧ fr'.get 5 = .int .i64 ((t.take i).count s : Nat) ∧ J = G) t.length ⟨0, rfl, by omega, by simp only [go_sem, Nat.reduceLT, Nat.reduceEqDiff, Nat.reduceAdd, Nat.reduceMul, Nat.reduceSub, Nat.reduceLeDiff, Int.reduceToNat, Int.reduceNeg, Int.reduceLT, Int.reduceLE, Int.reduceEq, reduceCtorEq]; rfl, by simp only [go_sem, Nat.reduceLT, Nat.reduceEqDiff, Nat.reduceAdd, Nat.reduceMul, Nat.reduceSub, Nat.reduceLeDiff, Int.reduceToNat, Int.reduceNeg, Int.reduceLT, Int.reduceLE, Int.reduceEq, reduceCtorEq]; rfl, rfl⟩ ?_
  rintro kn fr' J A R hA hs hg hR ⟨i, rfl, hi, f6, f5, rfl⟩
  have s1 := hg 1 (by decide)
  have s2 := hg 2 (by decide)
  simp only [Fr.get_put, Fr.get_init, List.getD_cons_zero, List.getD_cons_succ, Nat.reduceEqDiff, if_true, if_false] at s1 s2
  refine wx_sound hT _ ?_
  by_cases hlt : i < t.length
  · have i1 : (i : Int) < t.length := by omega
    have e3 := inc_id hlt (by omega)
    have e1 := at_enc (E := Enc.str) (T := T) (k := .i64) se22 hlt rfl
    rw [str_cells] at e1
    have hct : (t.take (i + 1)).count s = (t.take i).count s + if t[i] = s then 1 else 0 := by
      rw [List.take_succ_eq_append_getElem hlt, List.count_append, List.count_cons, List.count_nil, Nat.zero_add]
      congr 1
      by_cases h : t[i] = s <;> simp [h]
    have hle : (t.take i).count s ≤ 1000 := by have := List.count_le_length (a := s) (l := t.take i); rw [List.length_take] at this; omega
    have back : ∀ fr2, A fr2 → fr2.get 6 = .int .i64 ((i + 1 : Nat) : Int) → fr2.get 5 = .int .i64 ((t.take (i + 1)).count s : Nat) → R fr2 J := fun fr2 ha q1 q2 => hR fr2 J ha (t.length - (i + 1)) (by omega) ⟨i + 1, rfl, by omega, q1, q2, rfl⟩
    rw [hct] at back
    clear hR hct
    generalize t[i] = x at *
    generalize (t.take i).count s = cn at *
    have wc : IntKind.i64.wrap ((cn : Int) + 1) = ((cn + 1 : Nat) : Int) := by rw [IntKind.wrap_i64]; omega
    by_cases hx : x = s
    · rw [if_pos hx] at back
      repeat' (first | simp only [go_sem, Nat.reduceLT, Nat.reduceEqDiff, Nat.reduceAdd, Nat.reduceMul, Nat.reduceSub, Nat.reduceLeDiff, Int.reduceToNat, Int.reduceNeg, Int.reduceLT, Int.reduceLE, Int.reduceEq, reduceCtorEq, Int.natCast_zero, Int.natCast_one, Int.cast_ofNat_Int, Bool.not_not, false_eq_decide, true_eq_decide, hread0, hreadk, read_cons0, read_consk, astore_h0, astore_hk, hget0, hgetk, hset0, hsetk, hlen, hcat, Nat.add_assoc, Nat.add_zero, Nat.zero_add, List.length_append, and_true, true_and, AV.flat, g0, get_app g0, read_get g0, read_app g0, *, -hK, -kG, -hlt, -back, -hle] | with_reducible refine IfB_dec (fun h => ?_) (fun h => ?_) | with_reducible refine Guard_dec (fun h => ?_) (fun h => ?_) | with_reducible refine Guard_ndec (fun h => ?_) (fun h => ?_) | with_reducible refine Guard_not (fun h => ?_) (fun h => ?_) | with_reducible refine IfB_ndec (fun h => ?_) (fun h => ?_) | with_reducible refine IfB_not (fun h => ?_) (fun h => ?_) | with_reducible refine Guard_split (fun h => ?_) (fun h => ?_) | with_reducible refine IfB_split (fun h => ?_) (fun h => ?_))
      exact back _ (by (repeat (first | exact hs | refine hA _ _ _ (by decide) ?_))) (by simp only [go_sem, Nat.reduceLT, Nat.reduceEqDiff, Nat.reduceAdd, Nat.reduceMul, Nat.reduceSub, Nat.reduceLeDiff, Int.reduceToNat, Int.reduceNeg, Int.reduceLT, Int.reduceLE, Int.reduceEq, reduceCtorEq]) (by simp only [go_sem, Nat.reduceLT, Nat.reduceEqDiff, Nat.reduceAdd, Nat.reduceMul, Nat.reduceSub, Nat.reduceLeDiff, Int.reduceToNat, Int.reduceNeg, Int.reduceLT, Int.reduceLE, Int.reduceEq, reduceCtorEq])
    · rw [if_neg hx, Nat.add_zero] at back
      repeat' (first | simp only [go_sem, Nat.reduceLT, Nat.reduceEqDiff, Nat.reduceAdd, Nat.reduceMul, Nat.reduceSub, Nat.reduceLeDiff, Int.reduceToNat, Int.reduceNeg, Int.reduceLT, Int.reduceLE, Int.reduceEq, reduceCtorEq, Int.natCast_zero, Int.natCast_one, Int.cast_ofNat_Int, Bool.not_not, false_eq_decide, true_eq_decide, hread0, hreadk, read_cons0, read_consk, astore_h0, astore_hk, hget0, hgetk, hset0, hsetk, hlen, hcat, Nat.add_assoc, Nat.add_zero, Nat.zero_add, List.length_append, and_true, true_and, AV.flat, g0, get_app g0, read_get g0, read_app g0, *, -hK, -kG, -hlt, -back, -hle] | with_reducible refine IfB_dec (fun h => ?_) (fun h => ?_) | with_reducible refine Guard_dec (fun h => ?_) (fun h => ?_) | with_reducible refine Guard_ndec (fun h => ?_) (fun h => ?_) | with_reducible refine Guard_not (fun h => ?_) (fun h => ?_) | with_reducible refine IfB_ndec (fun h => ?_) (fun h => ?_) | with_reducible refine IfB_not (fun h => ?_) (fun h => ?_) | with_reducible refine Guard_split (fun h => ?_) (fun h => ?_) | with_reducible refine IfB_split (fun h => ?_) (fun h => ?_))
      exact back _ (by (repeat (first | exact hs | refine hA _ _ _ (by decide) ?_))) (by simp only [go_sem, Nat.reduceLT, Nat.reduceEqDiff, Nat.reduceAdd, Nat.reduceMul, Nat.reduceSub, Nat.reduceLeDiff, Int.reduceToNat, Int.reduceNeg, Int.reduceLT, Int.reduceLE, Int.reduceEq, reduceCtorEq]) (by simp only [go_sem, Nat.reduceLT, Nat.reduceEqDiff, Nat.reduceAdd, Nat.reduceMul, Nat.reduceSub, Nat.reduceLeDiff, Int.reduceToNat, Int.reduceNeg, Int.reduceLT, Int.reduceLE, Int.reduceEq, reduceCtorEq]; exact f5)
  have i1 : ¬ (i : Int) < t.length := by omega
  rw [List.take_of_length_le (by omega)] at f5
  have htc : t.count s ≤ 1000 := Nat.le_trans List.count_le_length h1
  generalize t.count s = ct at *
  repeat' (first | simp only [go_sem, Nat.reduceLT, Nat.reduceEqDiff, Nat.reduceAdd, Nat.reduceMul, Nat.reduceSub, Nat.reduceLeDiff, Int.reduceToNat, Int.reduceNeg, Int.reduceLT, Int.reduceLE, Int.reduceEq, reduceCtorEq, Int.natCast_zero, Int.natCast_one, Int.cast_ofNat_Int, Bool.not_not, false_eq_decide, true_eq_decide, hread0, hreadk, read_cons0, read_consk, astore_h0, astore_hk, hget0, hgetk, hset0, hsetk, hlen, hcat, Nat.add_assoc, Nat.add_zero, Nat.zero_add, List.length_append, and_true, true_and, AV.flat, g0, get_app g0, read_get g0, read_app g0, *, -hK, -kG, -hlt, -htc] | with_reducible refine IfB_dec (fun h => ?_) (fun h => ?_) | with_reducible refine Guard_dec (fun h => ?_) (fun h => ?_) | with_reducible refine Guard_ndec (fun h => ?_) (fun h => ?_) | with_reducible refine Guard_not (fun h => ?_) (fun h => ?_) | with_reducible refine IfB_ndec (fun h => ?_) (fun h => ?_) | with_reducible refine IfB_not (fun h => ?_) (fun h => ?_) | with_reducible refine Guard_split (fun h => ?_) (fun h => ?_) | with_reducible refine IfB_split (fun h => ?_) (fun h => ?_))
  have o1 := s1
  have o2 := s2
  refine WX_loopS [1, 2] (fun kn fr2 J2 => ∃ z : Nat, kn = k.length - z ∧ z ≤ k.length ∧ fr2.get 7 = .int .i64 z ∧ fr2.get 5 = .int .i64 ((ct + (k.take z).count s : Nat) : Int) ∧ J2 = J) k.length ⟨0, rfl, by omega, by simp only [go_sem, Nat.reduceLT, Nat.reduceEqDiff, Nat.reduceAdd, Nat.reduceMul, Nat.reduceSub, Nat.reduceLeDiff, Int.reduceToNat, Int.reduceNeg, Int.reduceLT, Int.reduceLE, Int.reduceEq, reduceCtorEq]; rfl, by simp only [go_sem, Nat.reduceLT, Nat.reduceEqDiff, Nat.reduceAdd, Nat.reduceMul, Nat.reduceSub, Nat.reduceLeDiff, Int.reduceToNat, Int.reduceNeg, Int.reduceLT, Int.reduceLE, Int.reduceEq, reduceCtorEq]; exact f5, rfl⟩ ?_
  clear hs s1 s2 hR hA hg f5
  rintro kn fr2 J2 A2 R2 hA hs hg hR ⟨z, rfl, hz, f7, f5, rfl⟩
  have s1 := hg 1 (by decide)
  have s2 := hg 2 (by decide)
  simp only [Fr.get_put, Fr.get_init, List.getD_cons_zero, List.getD_cons_succ, Nat.reduceEqDiff, if_true, if_false] at s1 s2
  rw [o1] at s1
  rw [o2] at s2
  clear o1 o2
  refine wx_sound hT _ ?_
  by_cases hlz : z < k.length
  · have i2 : (z : Int) < k.length := by omega
    have e3 := inc_id hlz (by omega)
    have e1 := at_enc (E := Enc.str) (T := T) (k := .i64) se22 hlz rfl
    rw [str_cells] at e1
    have hct : (k.take (z + 1)).count s = (k.take z).count s + if k[z] = s then 1 else 0 := by
      rw [List.take_succ_eq_append_getElem hlz, List.count_append, List.count_cons, List.count_nil, Nat.zero_add]
      congr 1
      by_cases h : k[z] = s <;> simp [h]
    have hle : (k.take z).count s ≤ 1000 := by have := List.count_le_length (a := s) (l := k.take z); rw [List.length_take] at this; omega
    have back : ∀ fr3, A2 fr3 → fr3.get 7 = .int .i64 ((z + 1 : Nat) : Int) → fr3.get 5 = .int .i64 ((ct + (k.take (z + 1)).count s : Nat) : Int) → R2 fr3 J2 := fun fr3 ha q1 q2 => hR fr3 J2 ha (k.length - (z + 1)) (by omega) ⟨z + 1, rfl, by omega, q1, q2, rfl⟩
    rw [hct, ← Nat.add_assoc] at back
    have hle2 : ct + (k.take z).count s ≤ 2000 := by omega
    clear hR hct hle
    generalize k[z] = x at *
    generalize ct + (k.take z).count s = cn at *
    have wc : IntKind.i64.wrap ((cn : Int) + 1) = ((cn + 1 : Nat) : Int) := by rw [IntKind.wrap_i64]; omega
    by_cases hx : x = s
    · rw [if_pos hx] at back
      repeat' (first | simp only [go_sem, Nat.reduceLT, Nat.reduceEqDiff, Nat.reduceAdd, Nat.reduceMul, Nat.reduceSub, Nat.reduceLeDiff, Int.reduceToNat, Int.reduceNeg, Int.reduceLT, Int.reduceLE, Int.reduceEq, reduceCtorEq, Int.natCast_zero, Int.natCast_one, Int.cast_ofNat_Int, Bool.not_not, false_eq_decide, true_eq_decide, hread0, hreadk, read_cons0, read_consk, astore_h0, astore_hk, hget0, hgetk, hset0, hsetk, hlen, hcat, Nat.add_assoc, Nat.add_zero, Nat.zero_add, List.length_append, and_true, true_and, AV.flat, g0, get_app g0, read_get g0, read_app g0, *, -hK, -kG, -hlt, -hlz, -back, -hle2, -htc] | with_reducible refine IfB_dec (fun h => ?_) (fun h => ?_) | with_reducible refine Guard_dec (fun h => ?_) (fun h => ?_) | with_reducible refine Guard_ndec (fun h => ?_) (fun h => ?_) | with_reducible refine Guard_not (fun h => ?_) (fun h => ?_) | with_reducible refine IfB_ndec (fun h => ?_) (fun h => ?_) | with_reducible refine IfB_not (fun h => ?_) (fun h => ?_) | with_reducible refine Guard_split (fun h => ?_) (fun h => ?_) | with_reducible refine IfB_split (fun h => ?_) (fun h => ?_))
      exact back _ (by (repeat (first | exact hs | refine hA _ _ _ (by decide) ?_))) (by simp only [go_sem, Nat.reduceLT, Nat.reduceEqDiff, Nat.reduceAdd, Nat.reduceMul, Nat.reduceSub, Nat.reduceLeDiff, Int.reduceToNat, Int.reduceNeg, Int.reduceLT, Int.reduceLE, Int.reduceEq, reduceCtorEq]) (by simp only [go_sem, Nat.reduceLT, Nat.reduceEqDiff, Nat.reduceAdd, Nat.reduceMul, Nat.reduceSub, Nat.reduceLeDiff, Int.reduceToNat, Int.reduceNeg, Int.reduceLT, Int.reduceLE, Int.reduceEq, reduceCtorEq])
    · rw [if_neg hx, Nat.add_zero] at back
      repeat' (first | simp only [go_sem, Nat.reduceLT, Nat.reduceEqDiff, Nat.reduceAdd, Nat.reduceMul, Nat.reduceSub, Nat.reduceLeDiff, Int.reduceToNat, Int.reduceNeg, Int.reduceLT, Int.reduceLE, Int.reduceEq, reduceCtorEq, Int.natCast_zero, Int.natCast_one, Int.cast_ofNat_Int, Bool.not_not, false_eq_decide, true_eq_decide, hread0, hreadk, read_cons0, read_consk, astore_h0, astore_hk, hget0, hgetk, hset0, hsetk, hlen, hcat, Nat.add_assoc, Nat.add_zero, Nat.zero_add, List.length_append, and_true, true_and, AV.flat, g0, get_app g0, read_get g0, read_app g0, *, -hK, -kG, -hlt, -hlz, -back, -hle2, -htc] | with_reducible refine IfB_dec (fun h => ?_) (fun h => ?_) | with_reducible refine Guard_dec (fun h => ?_) (fun h => ?_) | with_reducible refine Guard_ndec (fun h => ?_) (fun h => ?_) | with_reducible refine Guard_not (fun h => ?_) (fun h => ?_) | with_reducible refine IfB_ndec (fun h => ?_) (fun h => ?_) | with_reducible refine IfB_not (fun h => ?_) (fun h => ?_) | with_reducible refine Guard_split (fun h => ?_) (fun h => ?_) | with_reducible refine IfB_split (fun h => ?_) (fun h => ?_))
      exact back _ (by (repeat (first | exact hs | refine hA _ _ _ (by decide) ?_))) (by simp only [go_sem, Nat.reduceLT, Nat.reduceEqDiff, Nat.reduceAdd, Nat.reduceMul, Nat.reduceSub, Nat.reduceLeDiff, Int.reduceToNat, Int.reduceNeg, Int.reduceLT, Int.reduceLE, Int.reduceEq, reduceCtorEq]) (by simp only [go_sem, Nat.reduceLT, Nat.reduceEqDiff, Nat.reduceAdd, Nat.reduceMul, Nat.reduceSub, Nat.reduceLeDiff, Int.reduceToNat, Int.reduceNeg, Int.reduceLT, Int.reduceLE, Int.reduceEq, reduceCtorEq]; exact f5)
  have i2 : ¬ (z : Int) < k.length := by omega
  rw [List.take_of_length_le (by omega)] at f5
  clear hR
  repeat' (first | simp only [go_sem, Nat.reduceLT, Nat.reduceEqDiff, Nat.reduceAdd, Nat.reduceMul, Nat.reduceSub, Nat.reduceLeDiff, Int.reduceToNat, Int.reduceNeg, Int.reduceLT, Int.reduceLE, Int.reduceEq, reduceCtorEq, Int.natCast_zero, Int.natCast_one, Int.cast_ofNat_Int, Bool.not_not, false_eq_decide, true_eq_decide, hread0, hreadk, read_cons0, read_consk, astore_h0, astore_hk, hget0, hgetk, hset0, hsetk, hlen, hcat, Nat.add_assoc, Nat.add_zero, Nat.zero_add, List.length_append, and_true, true_and, AV.flat, g0, get_app g0, read_get g0, read_app g0, *, -hK, -kG, -hlt, -hlz, -htc] | with_reducible refine IfB_dec (fun h => ?_) (fun h => ?_) | with_reducible refine Guard_dec (fun h => ?_) (fun h => ?_) | with_reducible refine Guard_ndec (fun h => ?_) (fun h => ?_) | with_reducible refine Guard_not (fun h => ?_) (fun h => ?_) | with_reducible refine IfB_ndec (fun h => ?_) (fun h => ?_) | with_reducible refine IfB_not (fun h => ?_) (fun h => ?_) | with_reducible refine Guard_split (fun h => ?_) (fun h => ?_) | with_reducible refine IfB_split (fun h => ?_) (fun h => ?_))
  exact hK _ _ (Thaw.atom _ rfl) kG
end Go.Proofs.Ytakllaigpjbgdaa
