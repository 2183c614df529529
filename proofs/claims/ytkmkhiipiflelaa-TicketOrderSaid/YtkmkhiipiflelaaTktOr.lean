import Derived.Test.YtkmkhiipiflelaaTktPl
set_option linter.unusedSimpArgs false
set_option linter.unusedVariables false
set_option maxRecDepth 100000
set_option maxHeartbeats 4000000
namespace Go.Proofs.Ytkmkhiipiflelaa
open Go Go.Proofs Go.Proofs.PI
/-! ### are two tickets the same; have two lists a number in common; is what was taken orderly -/
theorem same12_spec (x y : Tkt) (hn : x.cmd.keys.length ≤ 1000) (H : Heap) : WC Try.prog 25 [x.av, y.av] H fun r H' => r = .bool (decide (x = y)) ∧ H' = H := by
  refine WC_val fun K hK => ?_
  have sc := fun J => sameCmd_spec x.cmd y.cmd hn J
  obtain ⟨a1, a2, ca, a3, a4⟩ := x
  obtain ⟨b1, b2, cb, b3, b4⟩ := y
  simp only at sc hn
  have hne : ∀ {P : Prop}, ¬ P → ((⟨a1, a2, ca, a3, a4⟩ : Tkt) = ⟨b1, b2, cb, b3, b4⟩ → P) → decide ((⟨a1, a2, ca, a3, a4⟩ : Tkt) = ⟨b1, b2, cb, b3, b4⟩) = false := fun h1 h2 => decide_eq_false (fun h => h1 (h2 h))
  unfold Tkt.av
  unfold Cmd.av at sc
  simp only
  by_cases q1 : a1 = b1
  rotate_left
  · rw [hne q1 (fun h => by injection h)] at hK
    clear sc hne
    refine WC_of_body hT Try.func25 rfl (by simp [Try.f25]) (by simp [Try.f25]) (wx_sound hT _ ?_)
    simp only [Try.f25]
    repeat' (first | simp only [go_sem, Nat.reduceLT, Nat.reduceEqDiff, Nat.reduceAdd, Nat.reduceMul, Nat.reduceSub, Nat.reduceLeDiff, Int.reduceToNat, Int.reduceNeg, Int.reduceLT, Int.reduceLE, Int.reduceEq, reduceCtorEq, Int.natCast_zero, Int.natCast_one, Int.cast_ofNat_Int, Bool.not_not, false_eq_decide, true_eq_decide, hread0, hreadk, read_cons0, read_consk, astore_h0, astore_hk, hget0, hgetk, hset0, hsetk, hlen, hcat, Nat.add_assoc, Nat.add_zero, Nat.zero_add, List.length_append, and_true, true_and, AV.flat, *, -hK] | with_reducible refine IfB_dec (fun h => ?_) (fun h => ?_) | with_reducible refine Guard_dec (fun h => ?_) (fun h => ?_) | with_reducible refine Guard_ndec (fun h => ?_) (fun h => ?_) | with_reducible refine Guard_not (fun h => ?_) (fun h => ?_) | with_reducible refine IfB_ndec (fun h => ?_) (fun h => ?_) | with_reducible refine IfB_not (fun h => ?_) (fun h => ?_) | with_reducible refine Guard_split (fun h => ?_) (fun h => ?_) | with_reducible refine IfB_split (fun h => ?_) (fun h => ?_))
    exact hK _ _ (.bool _) (Keep.app _ _ _)
  by_cases q2 : a2 = b2
  rotate_left
  · rw [hne q2 (fun h => by injection h)] at hK
    clear sc hne
    refine WC_of_body hT Try.func25 rfl (by simp [Try.f25]) (by simp [Try.f25]) (wx_sound hT _ ?_)
    simp only [Try.f25]
    repeat' (first | simp only [go_sem, Nat.reduceLT, Nat.reduceEqDiff, Nat.reduceAdd, Nat.reduceMul, Nat.reduceSub, Nat.reduceLeDiff, Int.reduceToNat, Int.reduceNeg, Int.reduceLT, Int.reduceLE, Int.reduceEq, reduceCtorEq, Int.natCast_zero, Int.natCast_one, Int.cast_ofNat_Int, Bool.not_not, false_eq_decide, true_eq_decide, hread0, hreadk, read_cons0, read_consk, astore_h0, astore_hk, hget0, hgetk, hset0, hsetk, hlen, hcat, Nat.add_assoc, Nat.add_zero, Nat.zero_add, List.length_append, and_true, true_and, AV.flat, *, -hK] | with_reducible refine IfB_dec (fun h => ?_) (fun h => ?_) | with_reducible refine Guard_dec (fun h => ?_) (fun h => ?_) | with_reducible refine Guard_ndec (fun h => ?_) (fun h => ?_) | with_reducible refine Guard_not (fun h => ?_) (fun h => ?_) | with_reducible refine IfB_ndec (fun h => ?_) (fun h => ?_) | with_reducible refine IfB_not (fun h => ?_) (fun h => ?_) | with_reducible refine Guard_split (fun h => ?_) (fun h => ?_) | with_reducible refine IfB_split (fun h => ?_) (fun h => ?_))
    exact hK _ _ (.bool _) (Keep.app _ _ _)
  by_cases q3 : a3 = b3
  rotate_left
  · rw [hne q3 (fun h => by injection h)] at hK
    clear sc hne
    refine WC_of_body hT Try.func25 rfl (by simp [Try.f25]) (by simp [Try.f25]) (wx_sound hT _ ?_)
    simp only [Try.f25]
    repeat' (first | simp only [go_sem, Nat.reduceLT, Nat.reduceEqDiff, Nat.reduceAdd, Nat.reduceMul, Nat.reduceSub, Nat.reduceLeDiff, Int.reduceToNat, Int.reduceNeg, Int.reduceLT, Int.reduceLE, Int.reduceEq, reduceCtorEq, Int.natCast_zero, Int.natCast_one, Int.cast_ofNat_Int, Bool.not_not, false_eq_decide, true_eq_decide, hread0, hreadk, read_cons0, read_consk, astore_h0, astore_hk, hget0, hgetk, hset0, hsetk, hlen, hcat, Nat.add_assoc, Nat.add_zero, Nat.zero_add, List.length_append, and_true, true_and, AV.flat, *, -hK] | with_reducible refine IfB_dec (fun h => ?_) (fun h => ?_) | with_reducible refine Guard_dec (fun h => ?_) (fun h => ?_) | with_reducible refine Guard_ndec (fun h => ?_) (fun h => ?_) | with_reducible refine Guard_not (fun h => ?_) (fun h => ?_) | with_reducible refine IfB_ndec (fun h => ?_) (fun h => ?_) | with_reducible refine IfB_not (fun h => ?_) (fun h => ?_) | with_reducible refine Guard_split (fun h => ?_) (fun h => ?_) | with_reducible refine IfB_split (fun h => ?_) (fun h => ?_))
    exact hK _ _ (.bool _) (Keep.app _ _ _)
  by_cases q4 : a4 = b4
  rotate_left
  · rw [hne q4 (fun h => by injection h)] at hK
    clear sc hne
    refine WC_of_body hT Try.func25 rfl (by simp [Try.f25]) (by simp [Try.f25]) (wx_sound hT _ ?_)
    simp only [Try.f25]
    repeat' (first | simp only [go_sem, Nat.reduceLT, Nat.reduceEqDiff, Nat.reduceAdd, Nat.reduceMul, Nat.reduceSub, Nat.reduceLeDiff, Int.reduceToNat, Int.reduceNeg, Int.reduceLT, Int.reduceLE, Int.reduceEq, reduceCtorEq, Int.natCast_zero, Int.natCast_one, Int.cast_ofNat_Int, Bool.not_not, false_eq_decide, true_eq_decide, hread0, hreadk, read_cons0, read_consk, astore_h0, astore_hk, hget0, hgetk, hset0, hsetk, hlen, hcat, Nat.add_assoc, Nat.add_zero, Nat.zero_add, List.length_append, and_true, true_and, AV.flat, *, -hK] | with_reducible refine IfB_dec (fun h => ?_) (fun h => ?_) | with_reducible refine Guard_dec (fun h => ?_) (fun h => ?_) | with_reducible refine Guard_ndec (fun h => ?_) (fun h => ?_) | with_reducible refine Guard_not (fun h => ?_) (fun h => ?_) | with_reducible refine IfB_ndec (fun h => ?_) (fun h => ?_) | with_reducible refine IfB_not (fun h => ?_) (fun h => ?_) | with_reducible refine Guard_split (fun h => ?_) (fun h => ?_) | with_reducible refine IfB_split (fun h => ?_) (fun h => ?_))
    exact hK _ _ (.bool _) (Keep.app _ _ _)
  by_cases q5 : ca = cb
  · rw [decide_eq_true q5] at sc
    rw [decide_eq_true (show (⟨a1, a2, ca, a3, a4⟩ : Tkt) = ⟨b1, b2, cb, b3, b4⟩ by rw [q1, q2, q3, q4, q5])] at hK
    clear hne q5
    refine WC_of_body hT Try.func25 rfl (by simp [Try.f25]) (by simp [Try.f25]) (wx_sound hT _ ?_)
    simp only [Try.f25]
    repeat' (first | simp only [go_sem, Nat.reduceLT, Nat.reduceEqDiff, Nat.reduceAdd, Nat.reduceMul, Nat.reduceSub, Nat.reduceLeDiff, Int.reduceToNat, Int.reduceNeg, Int.reduceLT, Int.reduceLE, Int.reduceEq, reduceCtorEq, Int.natCast_zero, Int.natCast_one, Int.cast_ofNat_Int, Bool.not_not, false_eq_decide, true_eq_decide, hread0, hreadk, read_cons0, read_consk, astore_h0, astore_hk, hget0, hgetk, hset0, hsetk, hlen, hcat, Nat.add_assoc, Nat.add_zero, Nat.zero_add, List.length_append, and_true, true_and, AV.flat, *, -hK, -sc] | refine WC.call (sc _) ?_ | with_reducible refine IfB_dec (fun h => ?_) (fun h => ?_) | with_reducible refine Guard_dec (fun h => ?_) (fun h => ?_) | with_reducible refine Guard_ndec (fun h => ?_) (fun h => ?_) | with_reducible refine Guard_not (fun h => ?_) (fun h => ?_) | with_reducible refine IfB_ndec (fun h => ?_) (fun h => ?_) | with_reducible refine IfB_not (fun h => ?_) (fun h => ?_) | with_reducible refine Guard_split (fun h => ?_) (fun h => ?_) | with_reducible refine IfB_split (fun h => ?_) (fun h => ?_))
    exact hK _ _ (.bool _) (Keep.app _ _ _)
  · rw [decide_eq_false q5] at sc
    rw [hne q5 (fun h => by injection h)] at hK
    clear hne q5
    refine WC_of_body hT Try.func25 rfl (by simp [Try.f25]) (by simp [Try.f25]) (wx_sound hT _ ?_)
    simp only [Try.f25]
    repeat' (first | simp only [go_sem, Nat.reduceLT, Nat.reduceEqDiff, Nat.reduceAdd, Nat.reduceMul, Nat.reduceSub, Nat.reduceLeDiff, Int.reduceToNat, Int.reduceNeg, Int.reduceLT, Int.reduceLE, Int.reduceEq, reduceCtorEq, Int.natCast_zero, Int.natCast_one, Int.cast_ofNat_Int, Bool.not_not, false_eq_decide, true_eq_decide, hread0, hreadk, read_cons0, read_consk, astore_h0, astore_hk, hget0, hgetk, hset0, hsetk, hlen, hcat, Nat.add_assoc, Nat.add_zero, Nat.zero_add, List.length_append, and_true, true_and, AV.flat, *, -hK, -sc] | refine WC.call (sc _) ?_ | with_reducible refine IfB_dec (fun h => ?_) (fun h => ?_) | with_reducible refine Guard_dec (fun h => ?_) (fun h => ?_) | with_reducible refine Guard_ndec (fun h => ?_) (fun h => ?_) | with_reducible refine Guard_not (fun h => ?_) (fun h => ?_) | with_reducible refine IfB_ndec (fun h => ?_) (fun h => ?_) | with_reducible refine IfB_not (fun h => ?_) (fun h => ?_) | with_reducible refine Guard_split (fun h => ?_) (fun h => ?_) | with_reducible refine IfB_split (fun h => ?_) (fun h => ?_))
    exact hK _ _ (.bool _) (Keep.app _ _ _)
theorem meet_no (a b : List Int) (ha : a.length ≤ 100) (hb : b.length ≤ 100) (h : ∀ x ∈ a, x ∉ b) (H : Heap) : WC Try.prog 45 [(Enc.int .i64).lst a, (Enc.int .i64).lst b] H fun r H' => r = .bool false ∧ H' = H := by
  refine WC_of_K fun K hK => ?_
  refine WC_of_body hT Try.func45 rfl (by simp [Try.f45]) (by simp [Try.f45]) (wx_sound hT _ ?_)
  simp only [Try.f45]
  repeat' (first | simp only [go_sem, Nat.reduceLT, Nat.reduceEqDiff, Nat.reduceAdd, Nat.reduceMul, Nat.reduceSub, Nat.reduceLeDiff, Int.reduceToNat, Int.reduceNeg, Int.reduceLT, Int.reduceLE, Int.reduceEq, reduceCtorEq, Int.natCast_zero, Int.natCast_one, Int.cast_ofNat_Int, Bool.not_not, false_eq_decide, true_eq_decide, hread0, hreadk, read_cons0, read_consk, astore_h0, astore_hk, hget0, hgetk, hset0, hsetk, hlen, hcat, Nat.add_assoc, Nat.add_zero, Nat.zero_add, List.length_append, and_true, true_and, AV.flat, *, -hK, -h] | with_reducible refine IfB_dec (fun h => ?_) (fun h => ?_) | with_reducible refine Guard_dec (fun h => ?_) (fun h => ?_) | with_reducible refine Guard_ndec (fun h => ?_) (fun h => ?_) | with_reducible refine Guard_not (fun h => ?_) (fun h => ?_) | with_reducible refine IfB_ndec (fun h => ?_) (fun h => ?_) | with_reducible refine IfB_not (fun h => ?_) (fun h => ?_) | with_reducible refine Guard_split (fun h => ?_) (fun h => ?_) | with_reducible refine IfB_split (fun h => ?_) (fun h => ?_))
  refine WX_loopS [0, 1] (fun k fr' J => ∃ i : Nat, k = a.length - i ∧ i ≤ a.length ∧ fr'.get 5 = .int .i64 i ∧ J = H) a.length ⟨0, rfl, by omega, by simp only [go_sem, Nat.reduceLT, Nat.reduceEqDiff, Nat.reduceAdd, Nat.reduceMul, Nat.reduceSub, Nat.reduceLeDiff, Int.reduceToNat, Int.reduceNeg, Int.reduceLT, Int.reduceLE, Int.reduceEq, reduceCtorEq]; rfl, rfl⟩ ?_
  rintro k fr' J A R hA hs hg hR ⟨i, rfl, hi, f5, rfl⟩
  have s0 := hg 0 (by decide)
  have s1 := hg 1 (by decide)
  simp only [Fr.get_put, Fr.get_init, List.getD_cons_zero, List.getD_cons_succ, Nat.reduceEqDiff, if_true, if_false] at s0 s1
  refine wx_sound hT _ ?_
  by_cases hlt : i < a.length
  rotate_left
  · have i1 : ¬ (i : Int) < a.length := by omega
    repeat' (first | simp only [go_sem, Nat.reduceLT, Nat.reduceEqDiff, Nat.reduceAdd, Nat.reduceMul, Nat.reduceSub, Nat.reduceLeDiff, Int.reduceToNat, Int.reduceNeg, Int.reduceLT, Int.reduceLE, Int.reduceEq, reduceCtorEq, Int.natCast_zero, Int.natCast_one, Int.cast_ofNat_Int, Bool.not_not, false_eq_decide, true_eq_decide, hread0, hreadk, read_cons0, read_consk, astore_h0, astore_hk, hget0, hgetk, hset0, hsetk, hlen, hcat, Nat.add_assoc, Nat.add_zero, Nat.zero_add, List.length_append, and_true, true_and, AV.flat, *, -hK, -h, -hlt] | with_reducible refine IfB_dec (fun h => ?_) (fun h => ?_) | with_reducible refine Guard_dec (fun h => ?_) (fun h => ?_) | with_reducible refine Guard_ndec (fun h => ?_) (fun h => ?_) | with_reducible refine Guard_not (fun h => ?_) (fun h => ?_) | with_reducible refine IfB_ndec (fun h => ?_) (fun h => ?_) | with_reducible refine IfB_not (fun h => ?_) (fun h => ?_) | with_reducible refine Guard_split (fun h => ?_) (fun h => ?_) | with_reducible refine IfB_split (fun h => ?_) (fun h => ?_))
    exact hK _ _ ⟨rfl, rfl⟩
  have i1 : (i : Int) < a.length := by omega
  have e3 := inc_id hlt (by omega)
  have e1 := at_enc (E := Enc.int .i64) (T := T) (k := .i64) se27 hlt rfl
  rw [int_cells] at e1
  have hx := h _ (List.getElem_mem hlt)
  have back : ∀ fr2 J2, A fr2 → fr2.get 5 = .int .i64 ((i + 1 : Nat) : Int) → J2 = J → R fr2 J2 := fun fr2 J2 ha q1 q2 => hR fr2 J2 ha (a.length - (i + 1)) (by omega) ⟨i + 1, rfl, by omega, q1, q2⟩
  clear hR h
  generalize a[i] = x at *
  repeat' (first | simp only [go_sem, Nat.reduceLT, Nat.reduceEqDiff, Nat.reduceAdd, Nat.reduceMul, Nat.reduceSub, Nat.reduceLeDiff, Int.reduceToNat, Int.reduceNeg, Int.reduceLT, Int.reduceLE, Int.reduceEq, reduceCtorEq, Int.natCast_zero, Int.natCast_one, Int.cast_ofNat_Int, Bool.not_not, false_eq_decide, true_eq_decide, hread0, hreadk, read_cons0, read_consk, astore_h0, astore_hk, hget0, hgetk, hset0, hsetk, hlen, hcat, Nat.add_assoc, Nat.add_zero, Nat.zero_add, List.length_append, and_true, true_and, AV.flat, *, -hK, -hlt, -hx, -back] | with_reducible refine IfB_dec (fun h => ?_) (fun h => ?_) | with_reducible refine Guard_dec (fun h => ?_) (fun h => ?_) | with_reducible refine Guard_ndec (fun h => ?_) (fun h => ?_) | with_reducible refine Guard_not (fun h => ?_) (fun h => ?_) | with_reducible refine IfB_ndec (fun h => ?_) (fun h => ?_) | with_reducible refine IfB_not (fun h => ?_) (fun h => ?_) | with_reducible refine Guard_split (fun h => ?_) (fun h => ?_) | with_reducible refine IfB_split (fun h => ?_) (fun h => ?_))
  have hA0 := hA
  have o1 := s1
  have o0 := s0
  refine WX_loopS [0, 1, 5] (fun k fr' J2 => ∃ z : Nat, k = b.length - z ∧ z ≤ b.length ∧ fr'.get 6 = .int .i64 z ∧ J2 = J ∧ A fr') b.length ⟨0, rfl, by omega, by simp only [go_sem, Nat.reduceLT, Nat.reduceEqDiff, Nat.reduceAdd, Nat.reduceMul, Nat.reduceSub, Nat.reduceLeDiff, Int.reduceToNat, Int.reduceNeg, Int.reduceLT, Int.reduceLE, Int.reduceEq, reduceCtorEq]; rfl, rfl, by (repeat (first | exact hs | refine hA _ _ _ (by decide) ?_))⟩ ?_
  clear hg hs hA s0 s1
  rintro k fr' J2 A2 R2 hA hs hg hR2 ⟨z, rfl, hz, f6, rfl, hAf⟩
  have s0 := hg 0 (by decide)
  have s1 := hg 1 (by decide)
  have s5 := hg 5 (by decide)
  simp only [Fr.get_put, Fr.get_init, List.getD_cons_zero, List.getD_cons_succ, Nat.reduceEqDiff, if_true, if_false] at s0 s1 s5
  rw [o0] at s0
  rw [o1] at s1
  rw [f5] at s5
  clear o0 o1 f5
  refine wx_sound hT _ ?_
  by_cases hlz : z < b.length
  rotate_left
  · have i6 : ¬ (z : Int) < b.length := by omega
    repeat' (first | simp only [go_sem, Nat.reduceLT, Nat.reduceEqDiff, Nat.reduceAdd, Nat.reduceMul, Nat.reduceSub, Nat.reduceLeDiff, Int.reduceToNat, Int.reduceNeg, Int.reduceLT, Int.reduceLE, Int.reduceEq, reduceCtorEq, Int.natCast_zero, Int.natCast_one, Int.cast_ofNat_Int, Bool.not_not, false_eq_decide, true_eq_decide, hread0, hreadk, read_cons0, read_consk, astore_h0, astore_hk, hget0, hgetk, hset0, hsetk, hlen, hcat, Nat.add_assoc, Nat.add_zero, Nat.zero_add, List.length_append, and_true, true_and, AV.flat, *, -hK, -hlt, -hx, -back, -hlz] | with_reducible refine IfB_dec (fun h => ?_) (fun h => ?_) | with_reducible refine Guard_dec (fun h => ?_) (fun h => ?_) | with_reducible refine Guard_ndec (fun h => ?_) (fun h => ?_) | with_reducible refine Guard_not (fun h => ?_) (fun h => ?_) | with_reducible refine IfB_ndec (fun h => ?_) (fun h => ?_) | with_reducible refine IfB_not (fun h => ?_) (fun h => ?_) | with_reducible refine Guard_split (fun h => ?_) (fun h => ?_) | with_reducible refine IfB_split (fun h => ?_) (fun h => ?_))
    exact back _ _ (by repeat (first | exact hAf | refine hA0 _ _ _ (by decide) ?_)) (by simp only [go_sem, Nat.reduceLT, Nat.reduceEqDiff, Nat.reduceAdd, Nat.reduceMul, Nat.reduceSub, Nat.reduceLeDiff, Int.reduceToNat, Int.reduceNeg, Int.reduceLT, Int.reduceLE, Int.reduceEq, reduceCtorEq]) rfl
  have i6 : (z : Int) < b.length := by omega
  have e7 := inc_id hlz (by omega)
  have e4 := at_enc (E := Enc.int .i64) (T := T) (k := .i64) se27 hlz rfl
  rw [int_cells] at e4
  have hne : ¬ x = b[z] := fun e => hx (by rw [e]; exact List.getElem_mem hlz)
  have back2 : ∀ fr2 J3, A2 fr2 → fr2.get 6 = .int .i64 ((z + 1 : Nat) : Int) → J3 = J2 → A fr2 → R2 fr2 J3 := fun fr2 J3 ha j1 j2 j3 => hR2 fr2 J3 ha (b.length - (z + 1)) (by omega) ⟨z + 1, rfl, by omega, j1, j2, j3⟩
  clear hR2 hx back
  generalize b[z] = y at *
  repeat' (first | simp only [go_sem, Nat.reduceLT, Nat.reduceEqDiff, Nat.reduceAdd, Nat.reduceMul, Nat.reduceSub, Nat.reduceLeDiff, Int.reduceToNat, Int.reduceNeg, Int.reduceLT, Int.reduceLE, Int.reduceEq, reduceCtorEq, Int.natCast_zero, Int.natCast_one, Int.cast_ofNat_Int, Bool.not_not, false_eq_decide, true_eq_decide, hread0, hreadk, read_cons0, read_consk, astore_h0, astore_hk, hget0, hgetk, hset0, hsetk, hlen, hcat, Nat.add_assoc, Nat.add_zero, Nat.zero_add, List.length_append, and_true, true_and, AV.flat, *, -hK, -hlt, -back2, -hlz] | with_reducible refine IfB_dec (fun h => ?_) (fun h => ?_) | with_reducible refine Guard_dec (fun h => ?_) (fun h => ?_) | with_reducible refine Guard_ndec (fun h => ?_) (fun h => ?_) | with_reducible refine Guard_not (fun h => ?_) (fun h => ?_) | with_reducible refine IfB_ndec (fun h => ?_) (fun h => ?_) | with_reducible refine IfB_not (fun h => ?_) (fun h => ?_) | with_reducible refine Guard_split (fun h => ?_) (fun h => ?_) | with_reducible refine IfB_split (fun h => ?_) (fun h => ?_))
  refine WX_rows hT hmix [(0, none), (1, none), (2, none), (3, none), (4, none), (5, none), (6, none), (7, none), (8, none)] (by kernel_rfl) ?_
  repeat' (first | simp only [go_sem, Nat.reduceLT, Nat.reduceEqDiff, Nat.reduceAdd, Nat.reduceMul, Nat.reduceSub, Nat.reduceLeDiff, Int.reduceToNat, Int.reduceNeg, Int.reduceLT, Int.reduceLE, Int.reduceEq, reduceCtorEq, Int.natCast_zero, Int.natCast_one, Int.cast_ofNat_Int, Bool.not_not, false_eq_decide, true_eq_decide, hread0, hreadk, read_cons0, read_consk, astore_h0, astore_hk, hget0, hgetk, hset0, hsetk, hlen, hcat, Nat.add_assoc, Nat.add_zero, Nat.zero_add, List.length_append, and_true, true_and, AV.flat, *, -hK, -hlt, -back2, -hlz] | with_reducible refine IfB_dec (fun h => ?_) (fun h => ?_) | with_reducible refine Guard_dec (fun h => ?_) (fun h => ?_) | with_reducible refine Guard_ndec (fun h => ?_) (fun h => ?_) | with_reducible refine Guard_not (fun h => ?_) (fun h => ?_) | with_reducible refine IfB_ndec (fun h => ?_) (fun h => ?_) | with_reducible refine IfB_not (fun h => ?_) (fun h => ?_) | with_reducible refine Guard_split (fun h => ?_) (fun h => ?_) | with_reducible refine IfB_split (fun h => ?_) (fun h => ?_))
  exact back2 _ _ (by (repeat (first | exact hs | refine hA _ _ _ (by decide) ?_))) (by simp only [go_sem, Nat.reduceLT, Nat.reduceEqDiff, Nat.reduceAdd, Nat.reduceMul, Nat.reduceSub, Nat.reduceLeDiff, Int.reduceToNat, Int.reduceNeg, Int.reduceLT, Int.reduceLE, Int.reduceEq, reduceCtorEq]) rfl (by repeat (first | exact hAf | refine hA0 _ _ _ (by decide) ?_))
end Go.Proofs.Ytkmkhiipiflelaa
