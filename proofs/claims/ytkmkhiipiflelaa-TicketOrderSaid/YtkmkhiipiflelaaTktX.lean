import Derived.Test.YtkmkhiipiflelaaTktW
set_option linter.unusedSimpArgs false
set_option linter.unusedVariables false
set_option maxRecDepth 100000
set_option maxHeartbeats 2000000
namespace Go.Proofs.Ytkmkhiipiflelaa
open Go Go.Proofs Go.Proofs.PI
def readyN (b : List (List Tkt)) (n : Nat) : List Int := ((List.range n).filter fun i => readyB b i).map fun i : Nat => (i : Int)
theorem readyN_step (b : List (List Tkt)) (i : Nat) : readyN b (i + 1) = readyN b i ++ if readyB b i = true then [(i : Int)] else [] := by
  unfold readyN
  rw [List.range_succ, List.filter_append, List.map_append]
  congr 1
  cases hh : readyB b i <;> simp [hh]
theorem readyN_len (b : List (List Tkt)) (n : Nat) : (readyN b n).length ≤ n := by
  unfold readyN
  have := List.length_filter_le (fun i => readyB b i) (List.range n)
  rw [List.length_map]; rw [List.length_range] at this; exact this
def readyL (q : Que) : List Int := if q.may then readyN q.bx q.bx.length else []
theorem readyAll_spec (q : Que) (hb : qFit q.bx) (H : Heap) : WC Try.prog 9 [q.av] H fun r H' => r = .tup [(Enc.int .i64).lst (readyL q), .int .i64 (queE q)] ∧ H' = H := by
  refine WC_val fun K hK => ?_
  have ck := fun J => tcheck_spec q hb J
  by_cases hq : q.may
  rotate_left
  · rw [queE_bad hq] at ck hK
    rw [show readyL q = [] by unfold readyL; rw [if_neg hq]] at hK
    unfold Que.av at *
    refine WC_of_body hT Try.func9 rfl (by simp [Try.f9]) (by simp [Try.f9]) (wx_sound hT _ ?_)
    simp only [Try.f9]
    repeat' (first | simp only [go_sem, Nat.reduceLT, Nat.reduceEqDiff, Nat.reduceAdd, Nat.reduceMul, Nat.reduceSub, Nat.reduceLeDiff, Int.reduceToNat, Int.reduceNeg, Int.reduceLT, Int.reduceLE, Int.reduceEq, reduceCtorEq, Int.natCast_zero, Int.natCast_one, Int.cast_ofNat_Int, Bool.not_not, false_eq_decide, true_eq_decide, hread0, hreadk, read_cons0, read_consk, astore_h0, astore_hk, hget0, hgetk, hset0, hsetk, hlen, hcat, Nat.add_assoc, Nat.add_zero, Nat.zero_add, List.length_append, and_true, true_and, AV.flat, *, -hK, -ck, -hq, -hb] | refine WC.call (ck _) ?_ | with_reducible refine IfB_dec (fun h => ?_) (fun h => ?_) | with_reducible refine Guard_dec (fun h => ?_) (fun h => ?_) | with_reducible refine Guard_ndec (fun h => ?_) (fun h => ?_) | with_reducible refine Guard_not (fun h => ?_) (fun h => ?_) | with_reducible refine IfB_ndec (fun h => ?_) (fun h => ?_) | with_reducible refine IfB_not (fun h => ?_) (fun h => ?_) | with_reducible refine Guard_split (fun h => ?_) (fun h => ?_) | with_reducible refine IfB_split (fun h => ?_) (fun h => ?_))
    exact hK _ _ (Thaw.tup_row ⟨.nils, .int _ _, trivial⟩) (Keep.app _ _ _)
  rw [queE_ok hq] at ck hK
  rw [show readyL q = readyN q.bx q.bx.length by unfold readyL; rw [if_pos hq]] at hK
  have rd := fun (i : Nat) (hi : i < q.bx.length) J => ready_spec q hq hb i hi J
  have hl4 := hq.2.1
  obtain ⟨nx, bs⟩ := q
  simp only at hl4 rd hK
  unfold Que.av at *
  simp only at ck rd ⊢
  refine WC_of_body hT Try.func9 rfl (by simp [Try.f9]) (by simp [Try.f9]) (wx_sound hT _ ?_)
  simp only [Try.f9]
  repeat' (first | simp only [go_sem, Nat.reduceLT, Nat.reduceEqDiff, Nat.reduceAdd, Nat.reduceMul, Nat.reduceSub, Nat.reduceLeDiff, Int.reduceToNat, Int.reduceNeg, Int.reduceLT, Int.reduceLE, Int.reduceEq, reduceCtorEq, Int.natCast_zero, Int.natCast_one, Int.cast_ofNat_Int, Bool.not_not, false_eq_decide, true_eq_decide, hread0, hreadk, read_cons0, read_consk, astore_h0, astore_hk, hget0, hgetk, hset0, hsetk, hlen, hcat, Nat.add_assoc, Nat.add_zero, Nat.zero_add, List.length_append, and_true, true_and, AV.flat, *, -hK, -ck, -hq, -hb, -rd] | refine WC.call (ck _) ?_ | with_reducible refine IfB_dec (fun h => ?_) (fun h => ?_) | with_reducible refine Guard_dec (fun h => ?_) (fun h => ?_) | with_reducible refine Guard_ndec (fun h => ?_) (fun h => ?_) | with_reducible refine Guard_not (fun h => ?_) (fun h => ?_) | with_reducible refine IfB_ndec (fun h => ?_) (fun h => ?_) | with_reducible refine IfB_not (fun h => ?_) (fun h => ?_) | with_reducible refine Guard_split (fun h => ?_) (fun h => ?_) | with_reducible refine IfB_split (fun h => ?_) (fun h => ?_))
  refine WX_loopS [1, 14] (fun k fr' J => ∃ (i : Nat) (w : AV), k = bs.length - i ∧ i ≤ bs.length ∧ fr'.get 15 = .int .i64 i ∧ fr'.get 5 = w ∧ OwnE (Enc.int .i64) (H.length + 1) J w (readyN bs i) ∧ Keep none H J ∧ H.length + 1 ≤ J.length ∧ J[H.length]? = some (⟨[.int .i64 nx, boxE.lst bs], 0, .full⟩ : Blk)) bs.length ⟨0, .nils, rfl, by omega, by simp only [go_sem, Nat.reduceLT, Nat.reduceEqDiff, Nat.reduceAdd, Nat.reduceMul, Nat.reduceSub, Nat.reduceLeDiff, Int.reduceToNat, Int.reduceNeg, Int.reduceLT, Int.reduceLE, Int.reduceEq, reduceCtorEq]; rfl, by simp only [go_sem, Nat.reduceLT, Nat.reduceEqDiff, Nat.reduceAdd, Nat.reduceMul, Nat.reduceSub, Nat.reduceLeDiff, Int.reduceToNat, Int.reduceNeg, Int.reduceLT, Int.reduceLE, Int.reduceEq, reduceCtorEq], by simp only [readyN, List.range_zero, List.filter_nil, List.map_nil]; exact OwnE.nils _ _ _, Keep.app _ _ _, by simp, by rw [hget0]; rfl⟩ ?_
  rintro k fr' J A R hA hs hg hR ⟨i, w, rfl, hi, f15, f5, ow, kJ, hJl, g0⟩
  have s1 := hg 1 (by decide)
  have s14 := hg 14 (by decide)
  simp only [Fr.get_put, Fr.get_init, List.getD_cons_zero, List.getD_cons_succ, Nat.reduceEqDiff, if_true, if_false] at s1 s14
  refine wx_sound hT _ ?_
  have hwo := ow.one
  by_cases hlt : i < bs.length
  rotate_left
  · have i1 : ¬ (i : Int) < bs.length := by omega
    have hie : i = bs.length := by omega
    rw [hie] at ow
    repeat' (first | simp only [go_sem, Nat.reduceLT, Nat.reduceEqDiff, Nat.reduceAdd, Nat.reduceMul, Nat.reduceSub, Nat.reduceLeDiff, Int.reduceToNat, Int.reduceNeg, Int.reduceLT, Int.reduceLE, Int.reduceEq, reduceCtorEq, Int.natCast_zero, Int.natCast_one, Int.cast_ofNat_Int, Bool.not_not, false_eq_decide, true_eq_decide, hread0, hreadk, read_cons0, read_consk, astore_h0, astore_hk, hget0, hgetk, hset0, hsetk, hlen, hcat, Nat.add_assoc, Nat.add_zero, Nat.zero_add, List.length_append, and_true, true_and, AV.flat, hwo, one_solid hwo, one_cells hwo, *, -hK, -ck, -hq, -hb, -rd, -ow, -kJ, -hJl, -g0, -hie] | with_reducible refine IfB_dec (fun h => ?_) (fun h => ?_) | with_reducible refine Guard_dec (fun h => ?_) (fun h => ?_) | with_reducible refine Guard_ndec (fun h => ?_) (fun h => ?_) | with_reducible refine Guard_not (fun h => ?_) (fun h => ?_) | with_reducible refine IfB_ndec (fun h => ?_) (fun h => ?_) | with_reducible refine IfB_not (fun h => ?_) (fun h => ?_) | with_reducible refine Guard_split (fun h => ?_) (fun h => ?_) | with_reducible refine IfB_split (fun h => ?_) (fun h => ?_))
    exact hK _ _ (Thaw.tup_row ⟨OwnE.thaw (E := Enc.int .i64) (Own.mono ow (m' := H.length) (by omega)) (by decide), .int _ _, trivial⟩) kJ
  have i1 : (i : Int) < bs.length := by omega
  have e3 := inc_id hlt (by omega)
  have rdi := rd i hlt
  have hst := readyN_step bs i
  have hwl := readyN_len bs i
  have back : ∀ fr2 J2 w2, A fr2 → fr2.get 15 = .int .i64 ((i + 1 : Nat) : Int) → fr2.get 5 = w2 → OwnE (Enc.int .i64) (H.length + 1) J2 w2 (readyN bs (i + 1)) → Keep none H J2 → H.length + 1 ≤ J2.length → J2[H.length]? = J[H.length]? → R fr2 J2 := fun fr2 J2 w2 ha q1 q2 q3 q4 q5 q6 => hR fr2 J2 ha (bs.length - (i + 1)) (by omega) ⟨i + 1, w2, rfl, by omega, q1, q2, q3, q4, q5, by rw [q6]; exact g0⟩
  rw [hst] at back
  clear hR hst rd
  generalize readyB bs i = rb at *
  cases rb with
  | true =>
    rw [if_pos rfl] at back
    repeat' (first | simp only [go_sem, Nat.reduceLT, Nat.reduceEqDiff, Nat.reduceAdd, Nat.reduceMul, Nat.reduceSub, Nat.reduceLeDiff, Int.reduceToNat, Int.reduceNeg, Int.reduceLT, Int.reduceLE, Int.reduceEq, reduceCtorEq, Int.natCast_zero, Int.natCast_one, Int.cast_ofNat_Int, Bool.not_not, false_eq_decide, true_eq_decide, hread0, hreadk, read_cons0, read_consk, astore_h0, astore_hk, hget0, hgetk, hset0, hsetk, hlen, hcat, Nat.add_assoc, Nat.add_zero, Nat.zero_add, List.length_append, and_true, true_and, AV.flat, g0, get_app g0, read_get g0, read_app g0, hwo, one_solid hwo, one_cells hwo, *, -hK, -ck, -hq, -hb, -ow, -kJ, -hJl, -rdi, -back, -hwl] | refine WC.call (rdi _) ?_ | with_reducible refine IfB_dec (fun h => ?_) (fun h => ?_) | with_reducible refine Guard_dec (fun h => ?_) (fun h => ?_) | with_reducible refine Guard_ndec (fun h => ?_) (fun h => ?_) | with_reducible refine Guard_not (fun h => ?_) (fun h => ?_) | with_reducible refine IfB_ndec (fun h => ?_) (fun h => ?_) | with_reducible refine IfB_not (fun h => ?_) (fun h => ?_) | with_reducible refine Guard_split (fun h => ?_) (fun h => ?_) | with_reducible refine IfB_split (fun h => ?_) (fun h => ?_))
    refine append1_enc (E := Enc.int .i64) (x := (i : Int)) ow rfl se27 az3 td3 tk27 rfl rfl (by decide) (by show (_ + 1) * 9 ≤ _; omega) hJl ?_
    intro v5 H5 o5 k5 hn5
    have hv5 := o5.one
    repeat' (first | simp only [go_sem, Nat.reduceLT, Nat.reduceEqDiff, Nat.reduceAdd, Nat.reduceMul, Nat.reduceSub, Nat.reduceLeDiff, Int.reduceToNat, Int.reduceNeg, Int.reduceLT, Int.reduceLE, Int.reduceEq, reduceCtorEq, Int.natCast_zero, Int.natCast_one, Int.cast_ofNat_Int, Bool.not_not, false_eq_decide, true_eq_decide, hread0, hreadk, read_cons0, read_consk, astore_h0, astore_hk, hget0, hgetk, hset0, hsetk, hlen, hcat, Nat.add_assoc, Nat.add_zero, Nat.zero_add, List.length_append, and_true, true_and, AV.flat, hv5, one_solid hv5, one_cells hv5, *, -hK, -ck, -hq, -hb, -ow, -kJ, -hJl, -rdi, -back, -hwl, -o5, -k5, -hn5, -g0] | with_reducible refine IfB_dec (fun h => ?_) (fun h => ?_) | with_reducible refine Guard_dec (fun h => ?_) (fun h => ?_) | with_reducible refine Guard_ndec (fun h => ?_) (fun h => ?_) | with_reducible refine Guard_not (fun h => ?_) (fun h => ?_) | with_reducible refine IfB_ndec (fun h => ?_) (fun h => ?_) | with_reducible refine IfB_not (fun h => ?_) (fun h => ?_) | with_reducible refine Guard_split (fun h => ?_) (fun h => ?_) | with_reducible refine IfB_split (fun h => ?_) (fun h => ?_))
    exact back _ _ _ (by (repeat (first | exact hs | refine hA _ _ _ (by decide) ?_))) (by simp only [go_sem, Nat.reduceLT, Nat.reduceEqDiff, Nat.reduceAdd, Nat.reduceMul, Nat.reduceSub, Nat.reduceLeDiff, Int.reduceToNat, Int.reduceNeg, Int.reduceLT, Int.reduceLE, Int.reduceEq, reduceCtorEq]) rfl (by simp only [go_sem, Nat.reduceLT, Nat.reduceEqDiff, Nat.reduceAdd, Nat.reduceMul, Nat.reduceSub, Nat.reduceLeDiff, Int.reduceToNat, Int.reduceNeg, Int.reduceLT, Int.reduceLE, Int.reduceEq, reduceCtorEq]; exact o5) (kJ.via k5 (fun b hb => by have := ow.ge hb; omega)) (Nat.le_trans hJl k5.len) (k5.at_ _ (by omega) (fun e => by have := ow.ge e; omega))
  | false =>
    rw [if_neg (by decide), List.append_nil] at back
    repeat' (first | simp only [go_sem, Nat.reduceLT, Nat.reduceEqDiff, Nat.reduceAdd, Nat.reduceMul, Nat.reduceSub, Nat.reduceLeDiff, Int.reduceToNat, Int.reduceNeg, Int.reduceLT, Int.reduceLE, Int.reduceEq, reduceCtorEq, Int.natCast_zero, Int.natCast_one, Int.cast_ofNat_Int, Bool.not_not, false_eq_decide, true_eq_decide, hread0, hreadk, read_cons0, read_consk, astore_h0, astore_hk, hget0, hgetk, hset0, hsetk, hlen, hcat, Nat.add_assoc, Nat.add_zero, Nat.zero_add, List.length_append, and_true, true_and, AV.flat, g0, get_app g0, read_get g0, read_app g0, hwo, one_solid hwo, one_cells hwo, *, -hK, -ck, -hq, -hb, -ow, -kJ, -hJl, -rdi, -back, -hwl] | refine WC.call (rdi _) ?_ | with_reducible refine IfB_dec (fun h => ?_) (fun h => ?_) | with_reducible refine Guard_dec (fun h => ?_) (fun h => ?_) | with_reducible refine Guard_ndec (fun h => ?_) (fun h => ?_) | with_reducible refine Guard_not (fun h => ?_) (fun h => ?_) | with_reducible refine IfB_ndec (fun h => ?_) (fun h => ?_) | with_reducible refine IfB_not (fun h => ?_) (fun h => ?_) | with_reducible refine Guard_split (fun h => ?_) (fun h => ?_) | with_reducible refine IfB_split (fun h => ?_) (fun h => ?_))
    exact back _ _ _ (by (repeat (first | exact hs | refine hA _ _ _ (by decide) ?_))) (by simp only [go_sem, Nat.reduceLT, Nat.reduceEqDiff, Nat.reduceAdd, Nat.reduceMul, Nat.reduceSub, Nat.reduceLeDiff, Int.reduceToNat, Int.reduceNeg, Int.reduceLT, Int.reduceLE, Int.reduceEq, reduceCtorEq]) (by simp only [go_sem, Nat.reduceLT, Nat.reduceEqDiff, Nat.reduceAdd, Nat.reduceMul, Nat.reduceSub, Nat.reduceLeDiff, Int.reduceToNat, Int.reduceNeg, Int.reduceLT, Int.reduceLE, Int.reduceEq, reduceCtorEq]; exact f5) ow kJ hJl rfl
end Go.Proofs.Ytkmkhiipiflelaa
