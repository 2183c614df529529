import Derived.Test.YtakllaigpjbgdaaLruH
set_option linter.unusedSimpArgs false
set_option linter.unusedVariables false
set_option maxRecDepth 100000
set_option maxHeartbeats 4000000
namespace Go.Proofs.Ytakllaigpjbgdaa
open Go Go.Proofs Go.Proofs.PI
theorem inp_ord {n : Nat} {a : AV} (h : InpPV T (n + 8) 24 a) : ∃ o : Ord, a = o.av ∧ o.t.length ≤ 140737488355328 ∧ o.k.length ≤ 140737488355328 := by
  obtain ⟨l, rfl, h'⟩ := h.agg tk24
  obtain ⟨parts, rfl, hl, hp⟩ := InpP.struct tk24 h'
  obtain ⟨p0, p1, rfl⟩ := len2 hl
  obtain ⟨t, rfl, -, -, hd⟩ := InpP.slice (E := Enc.str) (Pr := fun _ => True) tk22 (fun x hx => by obtain ⟨s, rfl, -⟩ := InpP.str tk9 hx; exact ⟨s, rfl, trivial⟩) (hp 0 _ _ rfl rfl)
  obtain ⟨k, rfl, -, -, hd2⟩ := InpP.slice (E := Enc.str) (Pr := fun _ => True) tk22 (fun x hx => by obtain ⟨s, rfl, -⟩ := InpP.str tk9 hx; exact ⟨s, rfl, trivial⟩) (hp 1 _ _ rfl rfl)
  refine ⟨⟨t, k⟩, rfl, ?_, ?_⟩
  · have hb := hd _ td9
    unfold reachBytes at hb
    have : t.length * 16 ≤ 140737488351232 := hb
    show t.length ≤ _; omega
  · have hb := hd2 _ td9
    unfold reachBytes at hb
    have : k.length * 16 ≤ 140737488351232 := hb
    show k.length ≤ _; omega
theorem great_spec (o : Ord) (h1 : o.t.length ≤ 140737488355328) (h2 : o.k.length ≤ 140737488355328) (H : Heap) : WC Try.prog 10 [o.av] H fun r H' => (∃ b, r = .bool b ∧ (b = false → o.t.length ≤ 300 ∧ o.k.length ≤ 300)) ∧ H' = H := by
  refine WC_froze (Q := fun r => ∃ b, r = .bool b ∧ (b = false → o.t.length ≤ 300 ∧ o.k.length ≤ 300)) ?_
  refine WC_of_K fun K hK => ?_
  obtain ⟨t, k⟩ := o
  simp only at h1 h2 hK
  unfold Ord.av
  simp only
  by_cases q1 : (t.length : Int) > 300
  · skip
    refine WC_of_body hT Try.func10 rfl (by simp [Try.f10]) (by simp [Try.f10]) (wx_sound hT _ ?_)
    simp only [Try.f10]
    repeat' (first | simp only [go_sem, Nat.reduceLT, Nat.reduceEqDiff, Nat.reduceAdd, Nat.reduceMul, Nat.reduceSub, Nat.reduceLeDiff, Int.reduceToNat, Int.reduceNeg, Int.reduceLT, Int.reduceLE, Int.reduceEq, reduceCtorEq, Int.natCast_zero, Int.natCast_one, Int.cast_ofNat_Int, Bool.not_not, false_eq_decide, true_eq_decide, hread0, hreadk, read_cons0, read_consk, astore_h0, astore_hk, hget0, hgetk, hset0, hsetk, hlen, hcat, Nat.add_assoc, Nat.add_zero, Nat.zero_add, List.length_append, and_true, true_and, AV.flat, *, -hK] | with_reducible refine IfB_dec (fun h => ?_) (fun h => ?_) | with_reducible refine Guard_dec (fun h => ?_) (fun h => ?_) | with_reducible refine Guard_ndec (fun h => ?_) (fun h => ?_) | with_reducible refine Guard_not (fun h => ?_) (fun h => ?_) | with_reducible refine IfB_ndec (fun h => ?_) (fun h => ?_) | with_reducible refine IfB_not (fun h => ?_) (fun h => ?_) | with_reducible refine Guard_split (fun h => ?_) (fun h => ?_) | with_reducible refine IfB_split (fun h => ?_) (fun h => ?_))
    exact hK _ _ ⟨_, .bool _, Keep.app _ _ _, _, rfl, fun hb => by cases hb⟩
  by_cases q2 : (k.length : Int) > 300
  · skip
    refine WC_of_body hT Try.func10 rfl (by simp [Try.f10]) (by simp [Try.f10]) (wx_sound hT _ ?_)
    simp only [Try.f10]
    repeat' (first | simp only [go_sem, Nat.reduceLT, Nat.reduceEqDiff, Nat.reduceAdd, Nat.reduceMul, Nat.reduceSub, Nat.reduceLeDiff, Int.reduceToNat, Int.reduceNeg, Int.reduceLT, Int.reduceLE, Int.reduceEq, reduceCtorEq, Int.natCast_zero, Int.natCast_one, Int.cast_ofNat_Int, Bool.not_not, false_eq_decide, true_eq_decide, hread0, hreadk, read_cons0, read_consk, astore_h0, astore_hk, hget0, hgetk, hset0, hsetk, hlen, hcat, Nat.add_assoc, Nat.add_zero, Nat.zero_add, List.length_append, and_true, true_and, AV.flat, *, -hK] | with_reducible refine IfB_dec (fun h => ?_) (fun h => ?_) | with_reducible refine Guard_dec (fun h => ?_) (fun h => ?_) | with_reducible refine Guard_ndec (fun h => ?_) (fun h => ?_) | with_reducible refine Guard_not (fun h => ?_) (fun h => ?_) | with_reducible refine IfB_ndec (fun h => ?_) (fun h => ?_) | with_reducible refine IfB_not (fun h => ?_) (fun h => ?_) | with_reducible refine Guard_split (fun h => ?_) (fun h => ?_) | with_reducible refine IfB_split (fun h => ?_) (fun h => ?_))
    exact hK _ _ ⟨_, .bool _, Keep.app _ _ _, _, rfl, fun hb => by cases hb⟩
  refine WC_of_body hT Try.func10 rfl (by simp [Try.f10]) (by simp [Try.f10]) (wx_sound hT _ ?_)
  simp only [Try.f10]
  repeat' (first | simp only [go_sem, Nat.reduceLT, Nat.reduceEqDiff, Nat.reduceAdd, Nat.reduceMul, Nat.reduceSub, Nat.reduceLeDiff, Int.reduceToNat, Int.reduceNeg, Int.reduceLT, Int.reduceLE, Int.reduceEq, reduceCtorEq, Int.natCast_zero, Int.natCast_one, Int.cast_ofNat_Int, Bool.not_not, false_eq_decide, true_eq_decide, hread0, hreadk, read_cons0, read_consk, astore_h0, astore_hk, hget0, hgetk, hset0, hsetk, hlen, hcat, Nat.add_assoc, Nat.add_zero, Nat.zero_add, List.length_append, and_true, true_and, AV.flat, *, -hK] | with_reducible refine IfB_dec (fun h => ?_) (fun h => ?_) | with_reducible refine Guard_dec (fun h => ?_) (fun h => ?_) | with_reducible refine Guard_ndec (fun h => ?_) (fun h => ?_) | with_reducible refine Guard_not (fun h => ?_) (fun h => ?_) | with_reducible refine IfB_ndec (fun h => ?_) (fun h => ?_) | with_reducible refine IfB_not (fun h => ?_) (fun h => ?_) | with_reducible refine Guard_split (fun h => ?_) (fun h => ?_) | with_reducible refine IfB_split (fun h => ?_) (fun h => ?_))
  have kG : Keep none H (H ++ [(⟨[Enc.str.lst t, Enc.str.lst k], 0, .full⟩ : Blk)]) := Keep.app _ _ _
  have g0 : (H ++ [(⟨[Enc.str.lst t, Enc.str.lst k], 0, .full⟩ : Blk)])[H.length]? = some ⟨[Enc.str.lst t, Enc.str.lst k], 0, .full⟩ := by simp
  generalize (H ++ [(⟨[Enc.str.lst t, Enc.str.lst k], 0, .full⟩ : Blk)] : Heap) = G at *
  refine WX_loopS [1] (fun kn fr' J => ∃ (i : Nat) (n : Int), kn = t.length - i ∧ i ≤ t.length ∧ fr'.get 4 = .int .i64 i ∧ fr'.get 3 = .int .i64 n ∧ 0 ≤ n ∧ n ≤ i * 100000 ∧ J = G) t.length ⟨0, 0, rfl, by omega, by simp only [go_sem, Nat.reduceLT, Nat.reduceEqDiff, Nat.reduceAdd, Nat.reduceMul, Nat.reduceSub, Nat.reduceLeDiff, Int.reduceToNat, Int.reduceNeg, Int.reduceLT, Int.reduceLE, Int.reduceEq, reduceCtorEq]; rfl, by simp only [go_sem, Nat.reduceLT, Nat.reduceEqDiff, Nat.reduceAdd, Nat.reduceMul, Nat.reduceSub, Nat.reduceLeDiff, Int.reduceToNat, Int.reduceNeg, Int.reduceLT, Int.reduceLE, Int.reduceEq, reduceCtorEq], by omega, by omega, rfl⟩ ?_
  rintro kn fr' J A R hA hs hg hR ⟨i, n, rfl, hi, f4, f3, hn0, hn1, rfl⟩
  have s1 := hg 1 (by decide)
  simp only [Fr.get_put, Fr.get_init, List.getD_cons_zero, List.getD_cons_succ, Nat.reduceEqDiff, if_true, if_false] at s1
  refine wx_sound hT _ ?_
  by_cases hlt : i < t.length
  · have i1 : (i : Int) < t.length := by omega
    have e3 := inc_id hlt (by omega)
    have e1 := at_enc (E := Enc.str) (T := T) (k := .i64) se22 hlt rfl
    rw [str_cells] at e1
    have back : ∀ fr2 J2 (n2 : Int), A fr2 → fr2.get 4 = .int .i64 ((i + 1 : Nat) : Int) → fr2.get 3 = .int .i64 n2 → 0 ≤ n2 → n2 ≤ ((i + 1 : Nat) : Int) * 100000 → J2 = J → R fr2 J2 := fun fr2 J2 n2 ha q1 q2 q3 q4 q5 => hR fr2 J2 ha (t.length - (i + 1)) (by omega) ⟨i + 1, n2, rfl, by omega, q1, q2, q3, q4, q5⟩
    clear hR
    generalize t[i] = s at *
    repeat' (first | simp only [go_sem, Nat.reduceLT, Nat.reduceEqDiff, Nat.reduceAdd, Nat.reduceMul, Nat.reduceSub, Nat.reduceLeDiff, Int.reduceToNat, Int.reduceNeg, Int.reduceLT, Int.reduceLE, Int.reduceEq, reduceCtorEq, Int.natCast_zero, Int.natCast_one, Int.cast_ofNat_Int, Bool.not_not, false_eq_decide, true_eq_decide, hread0, hreadk, read_cons0, read_consk, astore_h0, astore_hk, hget0, hgetk, hset0, hsetk, hlen, hcat, Nat.add_assoc, Nat.add_zero, Nat.zero_add, List.length_append, and_true, true_and, AV.flat, g0, get_app g0, read_get g0, read_app g0, *, -hK, -kG, -hlt, -back, -hn0, -hn1] | with_reducible refine IfB_dec (fun h => ?_) (fun h => ?_) | with_reducible refine Guard_dec (fun h => ?_) (fun h => ?_) | with_reducible refine Guard_ndec (fun h => ?_) (fun h => ?_) | with_reducible refine Guard_not (fun h => ?_) (fun h => ?_) | with_reducible refine IfB_ndec (fun h => ?_) (fun h => ?_) | with_reducible refine IfB_not (fun h => ?_) (fun h => ?_) | with_reducible refine Guard_split (fun h => ?_) (fun h => ?_) | with_reducible refine IfB_split (fun h => ?_) (fun h => ?_))
    have hbd : 0 ≤ IntKind.i64.wrap (n + (if 100000 < (s.length : Int) then (100000 : Int) else (s.length : Int))) ∧ IntKind.i64.wrap (n + (if 100000 < (s.length : Int) then (100000 : Int) else (s.length : Int))) ≤ ((i + 1 : Nat) : Int) * 100000 := by
      rw [IntKind.wrap_i64]; split <;> omega
    exact back _ _ _ (by (repeat (first | exact hs | refine hA _ _ _ (by decide) ?_))) (by simp only [go_sem, Nat.reduceLT, Nat.reduceEqDiff, Nat.reduceAdd, Nat.reduceMul, Nat.reduceSub, Nat.reduceLeDiff, Int.reduceToNat, Int.reduceNeg, Int.reduceLT, Int.reduceLE, Int.reduceEq, reduceCtorEq]) (by simp only [go_sem, Nat.reduceLT, Nat.reduceEqDiff, Nat.reduceAdd, Nat.reduceMul, Nat.reduceSub, Nat.reduceLeDiff, Int.reduceToNat, Int.reduceNeg, Int.reduceLT, Int.reduceLE, Int.reduceEq, reduceCtorEq]) hbd.1 hbd.2 rfl
  have i1 : ¬ (i : Int) < t.length := by omega
  have hn2 : n ≤ 30000000 := by omega
  repeat' (first | simp only [go_sem, Nat.reduceLT, Nat.reduceEqDiff, Nat.reduceAdd, Nat.reduceMul, Nat.reduceSub, Nat.reduceLeDiff, Int.reduceToNat, Int.reduceNeg, Int.reduceLT, Int.reduceLE, Int.reduceEq, reduceCtorEq, Int.natCast_zero, Int.natCast_one, Int.cast_ofNat_Int, Bool.not_not, false_eq_decide, true_eq_decide, hread0, hreadk, read_cons0, read_consk, astore_h0, astore_hk, hget0, hgetk, hset0, hsetk, hlen, hcat, Nat.add_assoc, Nat.add_zero, Nat.zero_add, List.length_append, and_true, true_and, AV.flat, g0, get_app g0, read_get g0, read_app g0, *, -hK, -kG, -hlt, -hn0, -hn1, -hn2] | with_reducible refine IfB_dec (fun h => ?_) (fun h => ?_) | with_reducible refine Guard_dec (fun h => ?_) (fun h => ?_) | with_reducible refine Guard_ndec (fun h => ?_) (fun h => ?_) | with_reducible refine Guard_not (fun h => ?_) (fun h => ?_) | with_reducible refine IfB_ndec (fun h => ?_) (fun h => ?_) | with_reducible refine IfB_not (fun h => ?_) (fun h => ?_) | with_reducible refine Guard_split (fun h => ?_) (fun h => ?_) | with_reducible refine IfB_split (fun h => ?_) (fun h => ?_))
  have o1 := s1
  clear hR
  refine WX_loopS [1] (fun kn fr2 J2 => ∃ (z : Nat) (n : Int), kn = k.length - z ∧ z ≤ k.length ∧ fr2.get 5 = .int .i64 z ∧ fr2.get 3 = .int .i64 n ∧ 0 ≤ n ∧ n ≤ 30000000 + z * 100000 ∧ J2 = J) k.length ⟨0, n, rfl, by omega, by simp only [go_sem, Nat.reduceLT, Nat.reduceEqDiff, Nat.reduceAdd, Nat.reduceMul, Nat.reduceSub, Nat.reduceLeDiff, Int.reduceToNat, Int.reduceNeg, Int.reduceLT, Int.reduceLE, Int.reduceEq, reduceCtorEq]; rfl, by simp only [go_sem, Nat.reduceLT, Nat.reduceEqDiff, Nat.reduceAdd, Nat.reduceMul, Nat.reduceSub, Nat.reduceLeDiff, Int.reduceToNat, Int.reduceNeg, Int.reduceLT, Int.reduceLE, Int.reduceEq, reduceCtorEq]; exact f3, hn0, by omega, rfl⟩ ?_
  clear hs s1 hA hg f3 hn0 hn1 hn2
  rintro kn fr2 J2 A2 R2 hA hs hg hR ⟨z, n, rfl, hz, f5, f3, hn0, hn1, rfl⟩
  have s1 := hg 1 (by decide)
  simp only [Fr.get_put, Fr.get_init, List.getD_cons_zero, List.getD_cons_succ, Nat.reduceEqDiff, if_true, if_false] at s1
  rw [o1] at s1
  clear o1
  refine wx_sound hT _ ?_
  by_cases hlz : z < k.length
  · have i2 : (z : Int) < k.length := by omega
    have e3 := inc_id hlz (by omega)
    have e1 := at_enc (E := Enc.str) (T := T) (k := .i64) se22 hlz rfl
    rw [str_cells] at e1
    have back : ∀ fr3 J3 (n2 : Int), A2 fr3 → fr3.get 5 = .int .i64 ((z + 1 : Nat) : Int) → fr3.get 3 = .int .i64 n2 → 0 ≤ n2 → n2 ≤ 30000000 + ((z + 1 : Nat) : Int) * 100000 → J3 = J2 → R2 fr3 J3 := fun fr3 J3 n2 ha q1 q2 q3 q4 q5 => hR fr3 J3 ha (k.length - (z + 1)) (by omega) ⟨z + 1, n2, rfl, by omega, q1, q2, q3, q4, q5⟩
    clear hR
    generalize k[z] = s at *
    repeat' (first | simp only [go_sem, Nat.reduceLT, Nat.reduceEqDiff, Nat.reduceAdd, Nat.reduceMul, Nat.reduceSub, Nat.reduceLeDiff, Int.reduceToNat, Int.reduceNeg, Int.reduceLT, Int.reduceLE, Int.reduceEq, reduceCtorEq, Int.natCast_zero, Int.natCast_one, Int.cast_ofNat_Int, Bool.not_not, false_eq_decide, true_eq_decide, hread0, hreadk, read_cons0, read_consk, astore_h0, astore_hk, hget0, hgetk, hset0, hsetk, hlen, hcat, Nat.add_assoc, Nat.add_zero, Nat.zero_add, List.length_append, and_true, true_and, AV.flat, g0, get_app g0, read_get g0, read_app g0, *, -hK, -kG, -hlt, -hlz, -back, -hn0, -hn1] | with_reducible refine IfB_dec (fun h => ?_) (fun h => ?_) | with_reducible refine Guard_dec (fun h => ?_) (fun h => ?_) | with_reducible refine Guard_ndec (fun h => ?_) (fun h => ?_) | with_reducible refine Guard_not (fun h => ?_) (fun h => ?_) | with_reducible refine IfB_ndec (fun h => ?_) (fun h => ?_) | with_reducible refine IfB_not (fun h => ?_) (fun h => ?_) | with_reducible refine Guard_split (fun h => ?_) (fun h => ?_) | with_reducible refine IfB_split (fun h => ?_) (fun h => ?_))
    have hbd : 0 ≤ IntKind.i64.wrap (n + (if 100000 < (s.length : Int) then (100000 : Int) else (s.length : Int))) ∧ IntKind.i64.wrap (n + (if 100000 < (s.length : Int) then (100000 : Int) else (s.length : Int))) ≤ 30000000 + ((z + 1 : Nat) : Int) * 100000 := by
      rw [IntKind.wrap_i64]; split <;> omega
    exact back _ _ _ (by (repeat (first | exact hs | refine hA _ _ _ (by decide) ?_))) (by simp only [go_sem, Nat.reduceLT, Nat.reduceEqDiff, Nat.reduceAdd, Nat.reduceMul, Nat.reduceSub, Nat.reduceLeDiff, Int.reduceToNat, Int.reduceNeg, Int.reduceLT, Int.reduceLE, Int.reduceEq, reduceCtorEq]) (by simp only [go_sem, Nat.reduceLT, Nat.reduceEqDiff, Nat.reduceAdd, Nat.reduceMul, Nat.reduceSub, Nat.reduceLeDiff, Int.reduceToNat, Int.reduceNeg, Int.reduceLT, Int.reduceLE, Int.reduceEq, reduceCtorEq]) hbd.1 hbd.2 rfl
  have i2 : ¬ (z : Int) < k.length := by omega
  repeat' (first | simp only [go_sem, Nat.reduceLT, Nat.reduceEqDiff, Nat.reduceAdd, Nat.reduceMul, Nat.reduceSub, Nat.reduceLeDiff, Int.reduceToNat, Int.reduceNeg, Int.reduceLT, Int.reduceLE, Int.reduceEq, reduceCtorEq, Int.natCast_zero, Int.natCast_one, Int.cast_ofNat_Int, Bool.not_not, false_eq_decide, true_eq_decide, hread0, hreadk, read_cons0, read_consk, astore_h0, astore_hk, hget0, hgetk, hset0, hsetk, hlen, hcat, Nat.add_assoc, Nat.add_zero, Nat.zero_add, List.length_append, and_true, true_and, AV.flat, g0, get_app g0, read_get g0, read_app g0, *, -hK, -kG, -hlt, -hlz, -hn0, -hn1] | with_reducible refine IfB_dec (fun h => ?_) (fun h => ?_) | with_reducible refine Guard_dec (fun h => ?_) (fun h => ?_) | with_reducible refine Guard_ndec (fun h => ?_) (fun h => ?_) | with_reducible refine Guard_not (fun h => ?_) (fun h => ?_) | with_reducible refine IfB_ndec (fun h => ?_) (fun h => ?_) | with_reducible refine IfB_not (fun h => ?_) (fun h => ?_) | with_reducible refine Guard_split (fun h => ?_) (fun h => ?_) | with_reducible refine IfB_split (fun h => ?_) (fun h => ?_))
  exact hK _ _ ⟨_, .atom _ rfl, kG, _, rfl, fun _ => ⟨by omega, by omega⟩⟩
theorem sameTexts_spec (xs ys : List (List UInt8)) (hx : xs.length ≤ 140737488355328) (H : Heap) : WC Try.prog 20 [Enc.str.lst xs, Enc.str.lst ys] H fun r H' => r = .bool (decide (xs = ys)) ∧ H' = H := by
  refine WC_of_K fun K hK => ?_
  by_cases hl : xs.length = ys.length
  rotate_left
  · have hne : ¬ (xs.length : Int) = ys.length := by omega
    have hd : decide (xs = ys) = false := by rw [decide_eq_false_iff_not]; intro h; exact hl (by rw [h])
    rw [hd] at hK
    refine WC_of_body hT Try.func20 rfl (by simp [Try.f20]) (by simp [Try.f20]) (wx_sound hT _ ?_)
    simp only [Try.f20]
    repeat' (first | simp only [go_sem, Nat.reduceLT, Nat.reduceEqDiff, Nat.reduceAdd, Nat.reduceMul, Nat.reduceSub, Nat.reduceLeDiff, Int.reduceToNat, Int.reduceNeg, Int.reduceLT, Int.reduceLE, Int.reduceEq, reduceCtorEq, Int.natCast_zero, Int.natCast_one, Int.cast_ofNat_Int, Bool.not_not, false_eq_decide, true_eq_decide, hread0, hreadk, read_cons0, read_consk, astore_h0, astore_hk, hget0, hgetk, hset0, hsetk, hlen, hcat, Nat.add_assoc, Nat.add_zero, Nat.zero_add, List.length_append, and_true, true_and, AV.flat, *, -hK, -hl, -hd] | with_reducible refine IfB_dec (fun h => ?_) (fun h => ?_) | with_reducible refine Guard_dec (fun h => ?_) (fun h => ?_) | with_reducible refine Guard_ndec (fun h => ?_) (fun h => ?_) | with_reducible refine Guard_not (fun h => ?_) (fun h => ?_) | with_reducible refine IfB_ndec (fun h => ?_) (fun h => ?_) | with_reducible refine IfB_not (fun h => ?_) (fun h => ?_) | with_reducible refine Guard_split (fun h => ?_) (fun h => ?_) | with_reducible refine IfB_split (fun h => ?_) (fun h => ?_))
    exact hK _ _ ⟨rfl, rfl⟩
  have he : (xs.length : Int) = ys.length := by omega
  refine WC_of_body hT Try.func20 rfl (by simp [Try.f20]) (by simp [Try.f20]) (wx_sound hT _ ?_)
  simp only [Try.f20]
  repeat' (first | simp only [go_sem, Nat.reduceLT, Nat.reduceEqDiff, Nat.reduceAdd, Nat.reduceMul, Nat.reduceSub, Nat.reduceLeDiff, Int.reduceToNat, Int.reduceNeg, Int.reduceLT, Int.reduceLE, Int.reduceEq, reduceCtorEq, Int.natCast_zero, Int.natCast_one, Int.cast_ofNat_Int, Bool.not_not, false_eq_decide, true_eq_decide, hread0, hreadk, read_cons0, read_consk, astore_h0, astore_hk, hget0, hgetk, hset0, hsetk, hlen, hcat, Nat.add_assoc, Nat.add_zero, Nat.zero_add, List.length_append, and_true, true_and, AV.flat, *, -hK, -hl] | with_reducible refine IfB_dec (fun h => ?_) (fun h => ?_) | with_reducible refine Guard_dec (fun h => ?_) (fun h => ?_) | with_reducible refine Guard_ndec (fun h => ?_) (fun h => ?_) | with_reducible refine Guard_not (fun h => ?_) (fun h => ?_) | with_reducible refine IfB_ndec (fun h => ?_) (fun h => ?_) | with_reducible refine IfB_not (fun h => ?_) (fun h => ?_) | with_reducible refine Guard_split (fun h => ?_) (fun h => ?_) | with_reducible refine IfB_split (fun h => ?_) (fun h => ?_))
  refine WX_loopS [0, 1] (fun k fr' H' => ∃ i : Nat, k = xs.length - i ∧ i ≤ xs.length ∧ fr'.get 5 = .int .i64 i ∧ xs.take i = ys.take i ∧ H' = H) xs.length ⟨0, rfl, by omega, by simp only [go_sem, Nat.reduceLT, Nat.reduceEqDiff, Nat.reduceAdd, Nat.reduceMul, Nat.reduceSub, Nat.reduceLeDiff, Int.reduceToNat, Int.reduceNeg, Int.reduceLT, Int.reduceLE, Int.reduceEq, reduceCtorEq]; rfl, rfl, rfl⟩ ?_
  rintro k fr' H' A R hA hs hg hR ⟨i, rfl, hi, f5, ht, rfl⟩
  have s0 := hg 0 (by decide)
  have s1 := hg 1 (by decide)
  simp only [Fr.get_put, Fr.get_init, List.getD_cons_zero, List.getD_cons_succ, Nat.reduceEqDiff, if_true, if_false] at s0 s1
  refine wx_sound hT _ ?_
  by_cases hlt : i < xs.length
  rotate_left
  · have h1 : ¬ (i : Int) < xs.length := by omega
    have h2 : ¬ (i : Int) < ys.length := by omega
    have hd : decide (xs = ys) = true := by
      rw [decide_eq_true_eq]
      rw [List.take_of_length_le (by omega), List.take_of_length_le (by omega)] at ht
      exact ht
    rw [hd] at hK
    repeat' (first | simp only [go_sem, Nat.reduceLT, Nat.reduceEqDiff, Nat.reduceAdd, Nat.reduceMul, Nat.reduceSub, Nat.reduceLeDiff, Int.reduceToNat, Int.reduceNeg, Int.reduceLT, Int.reduceLE, Int.reduceEq, reduceCtorEq, Int.natCast_zero, Int.natCast_one, Int.cast_ofNat_Int, Bool.not_not, false_eq_decide, true_eq_decide, hread0, hreadk, read_cons0, read_consk, astore_h0, astore_hk, hget0, hgetk, hset0, hsetk, hlen, hcat, Nat.add_assoc, Nat.add_zero, Nat.zero_add, List.length_append, and_true, true_and, AV.flat, *, -hK, -hl, -hd, -ht, -hlt] | with_reducible refine IfB_dec (fun h => ?_) (fun h => ?_) | with_reducible refine Guard_dec (fun h => ?_) (fun h => ?_) | with_reducible refine Guard_ndec (fun h => ?_) (fun h => ?_) | with_reducible refine Guard_not (fun h => ?_) (fun h => ?_) | with_reducible refine IfB_ndec (fun h => ?_) (fun h => ?_) | with_reducible refine IfB_not (fun h => ?_) (fun h => ?_) | with_reducible refine Guard_split (fun h => ?_) (fun h => ?_) | with_reducible refine IfB_split (fun h => ?_) (fun h => ?_))
    exact hK _ _ ⟨rfl, rfl⟩
  have h1 : (i : Int) < xs.length := by omega
  have h2 : (i : Int) < ys.length := by omega
  have e1 := at_enc (E := Enc.str) (T := T) (k := .i64) se22 hlt rfl
  have e2 := at_enc (E := Enc.str) (T := T) (k := .i64) se22 (show i < ys.length by omega) rfl
  have e3 := inc_id hlt hx
  rw [str_cells] at e1 e2
  have hback : xs[i] = ys[i] → xs.take (i + 1) = ys.take (i + 1) := fun h => by rw [List.take_succ_eq_append_getElem hlt, List.take_succ_eq_append_getElem (show i < ys.length by omega), ht, h]
  have hne : xs[i] ≠ ys[i] → xs ≠ ys := fun h heq => by subst heq; exact h rfl
  generalize xs[i] = c at *
  generalize ys[i] = d at *
  by_cases hcd : c = d
  · have hb := hback hcd
    subst hcd
    clear hback hne
    repeat' (first | simp only [go_sem, Nat.reduceLT, Nat.reduceEqDiff, Nat.reduceAdd, Nat.reduceMul, Nat.reduceSub, Nat.reduceLeDiff, Int.reduceToNat, Int.reduceNeg, Int.reduceLT, Int.reduceLE, Int.reduceEq, reduceCtorEq, Int.natCast_zero, Int.natCast_one, Int.cast_ofNat_Int, Bool.not_not, false_eq_decide, true_eq_decide, hread0, hreadk, read_cons0, read_consk, astore_h0, astore_hk, hget0, hgetk, hset0, hsetk, hlen, hcat, Nat.add_assoc, Nat.add_zero, Nat.zero_add, List.length_append, and_true, true_and, AV.flat, *, -hK, -hl, -ht, -hb, -hlt] | with_reducible refine IfB_dec (fun h => ?_) (fun h => ?_) | with_reducible refine Guard_dec (fun h => ?_) (fun h => ?_) | with_reducible refine Guard_ndec (fun h => ?_) (fun h => ?_) | with_reducible refine Guard_not (fun h => ?_) (fun h => ?_) | with_reducible refine IfB_ndec (fun h => ?_) (fun h => ?_) | with_reducible refine IfB_not (fun h => ?_) (fun h => ?_) | with_reducible refine Guard_split (fun h => ?_) (fun h => ?_) | with_reducible refine IfB_split (fun h => ?_) (fun h => ?_))
    refine WX_rows hT hmix [(0, none), (1, none), (2, none), (3, none), (4, none), (5, none), (6, none), (7, none), (8, none)] (by kernel_rfl) ?_
    repeat' (first | simp only [go_sem, Nat.reduceLT, Nat.reduceEqDiff, Nat.reduceAdd, Nat.reduceMul, Nat.reduceSub, Nat.reduceLeDiff, Int.reduceToNat, Int.reduceNeg, Int.reduceLT, Int.reduceLE, Int.reduceEq, reduceCtorEq, Int.natCast_zero, Int.natCast_one, Int.cast_ofNat_Int, Bool.not_not, false_eq_decide, true_eq_decide, hread0, hreadk, read_cons0, read_consk, astore_h0, astore_hk, hget0, hgetk, hset0, hsetk, hlen, hcat, Nat.add_assoc, Nat.add_zero, Nat.zero_add, List.length_append, and_true, true_and, AV.flat, *, -hK, -hl, -ht, -hb, -hlt] | with_reducible refine IfB_dec (fun h => ?_) (fun h => ?_) | with_reducible refine Guard_dec (fun h => ?_) (fun h => ?_) | with_reducible refine Guard_ndec (fun h => ?_) (fun h => ?_) | with_reducible refine Guard_not (fun h => ?_) (fun h => ?_) | with_reducible refine IfB_ndec (fun h => ?_) (fun h => ?_) | with_reducible refine IfB_not (fun h => ?_) (fun h => ?_) | with_reducible refine Guard_split (fun h => ?_) (fun h => ?_) | with_reducible refine IfB_split (fun h => ?_) (fun h => ?_))
    exact hR _ _ (by (repeat (first | exact hs | refine hA _ _ _ (by decide) ?_))) (xs.length - (i + 1)) (by omega) ⟨i + 1, rfl, by omega, by simp only [go_sem, Nat.reduceLT, Nat.reduceEqDiff, Nat.reduceAdd, Nat.reduceMul, Nat.reduceSub, Nat.reduceLeDiff, Int.reduceToNat, Int.reduceNeg, Int.reduceLT, Int.reduceLE, Int.reduceEq, reduceCtorEq], hb, rfl⟩
  · have hd : decide (xs = ys) = false := decide_eq_false (hne hcd)
    rw [hd] at hK
    clear hback hne
    repeat' (first | simp only [go_sem, Nat.reduceLT, Nat.reduceEqDiff, Nat.reduceAdd, Nat.reduceMul, Nat.reduceSub, Nat.reduceLeDiff, Int.reduceToNat, Int.reduceNeg, Int.reduceLT, Int.reduceLE, Int.reduceEq, reduceCtorEq, Int.natCast_zero, Int.natCast_one, Int.cast_ofNat_Int, Bool.not_not, false_eq_decide, true_eq_decide, hread0, hreadk, read_cons0, read_consk, astore_h0, astore_hk, hget0, hgetk, hset0, hsetk, hlen, hcat, Nat.add_assoc, Nat.add_zero, Nat.zero_add, List.length_append, and_true, true_and, AV.flat, *, -hK, -hl, -ht, -hlt, -hd] | with_reducible refine IfB_dec (fun h => ?_) (fun h => ?_) | with_reducible refine Guard_dec (fun h => ?_) (fun h => ?_) | with_reducible refine Guard_ndec (fun h => ?_) (fun h => ?_) | with_reducible refine Guard_not (fun h => ?_) (fun h => ?_) | with_reducible refine IfB_ndec (fun h => ?_) (fun h => ?_) | with_reducible refine IfB_not (fun h => ?_) (fun h => ?_) | with_reducible refine Guard_split (fun h => ?_) (fun h => ?_) | with_reducible refine IfB_split (fun h => ?_) (fun h => ?_))
    refine WX_rows hT hmix [(0, none), (1, none), (2, none), (3, none), (4, none), (5, none), (6, none), (7, none), (8, none)] (by kernel_rfl) ?_
    repeat' (first | simp only [go_sem, Nat.reduceLT, Nat.reduceEqDiff, Nat.reduceAdd, Nat.reduceMul, Nat.reduceSub, Nat.reduceLeDiff, Int.reduceToNat, Int.reduceNeg, Int.reduceLT, Int.reduceLE, Int.reduceEq, reduceCtorEq, Int.natCast_zero, Int.natCast_one, Int.cast_ofNat_Int, Bool.not_not, false_eq_decide, true_eq_decide, hread0, hreadk, read_cons0, read_consk, astore_h0, astore_hk, hget0, hgetk, hset0, hsetk, hlen, hcat, Nat.add_assoc, Nat.add_zero, Nat.zero_add, List.length_append, and_true, true_and, AV.flat, *, -hK, -hl, -ht, -hlt, -hd] | with_reducible refine IfB_dec (fun h => ?_) (fun h => ?_) | with_reducible refine Guard_dec (fun h => ?_) (fun h => ?_) | with_reducible refine Guard_ndec (fun h => ?_) (fun h => ?_) | with_reducible refine Guard_not (fun h => ?_) (fun h => ?_) | with_reducible refine IfB_ndec (fun h => ?_) (fun h => ?_) | with_reducible refine IfB_not (fun h => ?_) (fun h => ?_) | with_reducible refine Guard_split (fun h => ?_) (fun h => ?_) | with_reducible refine IfB_split (fun h => ?_) (fun h => ?_))
    exact hK _ _ ⟨rfl, rfl⟩
/-! ### orders that may be stay so -/
theorem goodL_perm {l m : List (List UInt8)} (h : goodL l) (p : l.Perm m) : goodL m := ⟨fun s hs => h.1 s (p.mem_iff.2 hs), p.nodup_iff.1 h.2⟩
theorem goodL_sub {l m : List (List UInt8)} (h : goodL l) (p : m.Sublist l) : goodL m := ⟨fun s hs => h.1 s (p.subset hs), h.2.sublist p⟩
def keysO (o : Ord) : List (List UInt8) := o.t ++ o.k
theorem levelO_perm (o : Ord) : (keysO (levelO o)).Perm (keysO o) := by
  unfold keysO levelO
  simp only
  have h : (o.k.drop (halfN o) ++ o.t ++ o.k.take (halfN o)).Perm (o.t ++ (o.k.take (halfN o) ++ o.k.drop (halfN o))) := by
    refine (List.perm_append_comm (l₁ := o.k.drop (halfN o) ++ o.t) (l₂ := o.k.take (halfN o))).trans ?_
    rw [← List.append_assoc]
    exact List.perm_append_comm
  rw [List.take_append_drop] at h
  exact h
theorem halfN_tot (o : Ord) : halfN o = (tot o + 1) / 2 := rfl
theorem levelO_may {o : Ord} (h : goodL (keysO o)) (ht : tot o ≤ 256) : (levelO o).may := by
  have h1 := levelO_tot o
  refine ⟨by unfold tot at *; omega, ?_, goodL_perm h (levelO_perm o).symm⟩
  rw [halfN_tot, h1, ← halfN_tot]
  show (o.k.take (halfN o)).length ≤ _
  rw [List.length_take]; omega
theorem takeO_perm {o : Ord} {s : List UInt8} (h : s ∈ keysO o) : (keysO o).Perm (s :: keysO (takeO o s)) := by
  unfold keysO takeO
  by_cases h1 : s ∈ o.t
  · rw [if_pos h1]
    exact (List.perm_cons_erase h1).append_right _
  · rw [if_neg h1]
    have h2 : s ∈ o.k := (List.mem_append.1 h).resolve_left h1
    exact ((List.perm_cons_erase h2).append_left o.t).trans List.perm_middle
theorem takeO_good {o : Ord} {s : List UInt8} (h : goodL (keysO o)) (hs : s ∈ keysO o) : goodL (keysO (takeO o s)) ∧ s ∉ keysO (takeO o s) := by
  have h1 := goodL_perm h (takeO_perm hs)
  exact ⟨goodL_sub h1 (List.sublist_cons_self _ _), (List.nodup_cons.1 h1.2).1⟩
theorem may_good {o : Ord} (h : o.may) : goodL (keysO o) := h.2.2
theorem may_tot {o : Ord} (h : o.may) : tot o ≤ 256 := h.1
theorem vicO_tot {o : Ord} (h : tot o ≠ 0) : (vicO o).2 = true := by
  unfold vicO
  by_cases h1 : o.t = []
  · rw [if_pos h1]
    by_cases h2 : o.k = []
    · exact absurd (by unfold tot; rw [h1, h2]; rfl) h
    · rw [if_neg h2]
  · rw [if_neg h1]
theorem mem_keys {o : Ord} {s : List UInt8} : s ∈ keysO o ↔ s ∈ o.t ∨ s ∈ o.k := List.mem_append
/-- One step: the victim is taken out. -/
theorem del_vic {o : Ord} (h : o.may) (ht : tot o ≠ 0) : hitE o (vicO o).1 = 0 ∧ delO o (vicO o).1 = levelO (takeO o (vicO o).1) ∧ (levelO (takeO o (vicO o).1)).may ∧ tot (levelO (takeO o (vicO o).1)) + 1 = tot o := by
  have hv := vicO_tot ht
  have hm := vic_some hv
  have hg := takeO_good (may_good h) (mem_keys.2 hm)
  have htk := takeO_tot hm
  have hask : askE o (vicO o).1 = 0 := by
    unfold askE
    rw [if_neg (not_not_intro h), if_neg (by rw [(may_good h).1 _ (mem_keys.2 hm)]; decide)]
  have hin : inO o (vicO o).1 = true := by
    unfold inO
    rcases hm with hm | hm
    · rw [decide_eq_true hm]; rfl
    · rw [decide_eq_true hm, Bool.or_true]
  have hE : hitE o (vicO o).1 = 0 := by unfold hitE; rw [if_neg (by rw [hask]; decide), if_pos hin]
  have := may_tot h
  exact ⟨hE, if_pos hE, levelO_may hg.1 (by omega), by rw [levelO_tot, htk]; omega⟩
theorem allL_length : ∀ (n : Nat) (o : Ord), o.may → tot o = n → (allL n o).length = n
  | 0, _, _, _ => rfl
  | n + 1, o, hm, ht => by
    obtain ⟨-, -, h1, h2⟩ := del_vic hm (by omega)
    rw [allL, if_pos (vicO_tot (by omega)), List.length_cons, allL_length n _ h1 (by omega)]
end Go.Proofs.Ytakllaigpjbgdaa
