import Derived.Test.YtakllaigpjbgdaaLruD
set_option linter.unusedSimpArgs false
set_option linter.unusedVariables false
set_option maxRecDepth 100000
set_option maxHeartbeats 4000000
namespace Go.Proofs.Ytakllaigpjbgdaa
open Go Go.Proofs Go.Proofs.PI
/-! ### who goes next, and all -/
def vicO (o : Ord) : List UInt8 × Bool := if o.t = [] then (if o.k = [] then ([], false) else (o.k.getLast?.getD [], true)) else (o.t.getLast?.getD [], true)
theorem last_get {l : List (List UInt8)} (h : l ≠ []) : ∃ hz : l.length - 1 < l.length, l.getLast?.getD [] = l[l.length - 1] := by
  have hl := List.length_pos_iff.2 h
  refine ⟨by omega, ?_⟩
  rw [List.getLast?_eq_getElem?, List.getElem?_eq_getElem (by omega)]; rfl
theorem victim_spec (o : Ord) (hf : o.fit) (H : Heap) : WC Try.prog 36 [o.av] H fun r H' => r = .tup [.str (vicO o).1, .bool (vicO o).2] ∧ H' = H := by
  refine WC_val fun K hK => ?_
  obtain ⟨t, k⟩ := o
  obtain ⟨h1, h2⟩ := hf
  simp only at h1 h2
  unfold Ord.av
  simp only
  refine WC_of_body hT Try.func36 rfl (by simp [Try.f36]) (by simp [Try.f36]) (wx_sound hT _ ?_)
  simp only [Try.f36]
  repeat' (first | simp only [go_sem, Nat.reduceLT, Nat.reduceEqDiff, Nat.reduceAdd, Nat.reduceMul, Nat.reduceSub, Nat.reduceLeDiff, Int.reduceToNat, Int.reduceNeg, Int.reduceLT, Int.reduceLE, Int.reduceEq, reduceCtorEq, Int.natCast_zero, Int.natCast_one, Int.cast_ofNat_Int, Bool.not_not, false_eq_decide, true_eq_decide, hread0, hreadk, read_cons0, read_consk, astore_h0, astore_hk, hget0, hgetk, hset0, hsetk, hlen, hcat, Nat.add_assoc, Nat.add_zero, Nat.zero_add, List.length_append, and_true, true_and, AV.flat, *, -hK] | with_reducible refine IfB_dec (fun h => ?_) (fun h => ?_) | with_reducible refine Guard_dec (fun h => ?_) (fun h => ?_) | with_reducible refine Guard_ndec (fun h => ?_) (fun h => ?_) | with_reducible refine Guard_not (fun h => ?_) (fun h => ?_) | with_reducible refine IfB_ndec (fun h => ?_) (fun h => ?_) | with_reducible refine IfB_not (fun h => ?_) (fun h => ?_) | with_reducible refine Guard_split (fun h => ?_) (fun h => ?_) | with_reducible refine IfB_split (fun h => ?_) (fun h => ?_))
  have kJ : Keep none H (H ++ [(⟨[Enc.str.lst t, Enc.str.lst k], 0, .full⟩ : Blk), (⟨[Enc.str.lst t, Enc.str.lst k], 1, .full⟩ : Blk)]) := Keep.app _ _ _
  have g1 : (H ++ [(⟨[Enc.str.lst t, Enc.str.lst k], 0, .full⟩ : Blk), (⟨[Enc.str.lst t, Enc.str.lst k], 1, .full⟩ : Blk)])[H.length + 1]? = some ⟨[Enc.str.lst t, Enc.str.lst k], 1, .full⟩ := by rw [hgetk]; rfl
  generalize (H ++ [(⟨[Enc.str.lst t, Enc.str.lst k], 0, .full⟩ : Blk), (⟨[Enc.str.lst t, Enc.str.lst k], 1, .full⟩ : Blk)] : Heap) = G at *
  refine WX_loopS [11, 12] (fun kn fr' J => ∃ i : Nat, kn = 2 - i ∧ i ≤ 2 ∧ fr'.get 13 = .int .i64 i ∧ J = G ∧ (1 ≤ i → t = []) ∧ (2 ≤ i → k = [])) 2 ⟨0, rfl, by omega, by simp only [go_sem, Nat.reduceLT, Nat.reduceEqDiff, Nat.reduceAdd, Nat.reduceMul, Nat.reduceSub, Nat.reduceLeDiff, Int.reduceToNat, Int.reduceNeg, Int.reduceLT, Int.reduceLE, Int.reduceEq, reduceCtorEq]; rfl, rfl, fun h => by omega, fun h => by omega⟩ ?_
  rintro kn fr' J A R hA hs hg hR ⟨i, rfl, hi, f13, rfl, hn1, hn2⟩
  have s11 := hg 11 (by decide)
  have s12 := hg 12 (by decide)
  simp only [Fr.get_put, Fr.get_init, List.getD_cons_zero, List.getD_cons_succ, Nat.reduceEqDiff, if_true, if_false] at s11 s12
  refine wx_sound hT _ ?_
  by_cases hlt : i < 2
  rotate_left
  · have i1 : ¬ (i : Int) < 2 := by omega
    have hv : vicO ⟨t, k⟩ = ([], false) := by unfold vicO; simp only; rw [if_pos (hn1 (by omega)), if_pos (hn2 (by omega))]
    rw [hv] at hK
    repeat' (first | simp only [go_sem, Nat.reduceLT, Nat.reduceEqDiff, Nat.reduceAdd, Nat.reduceMul, Nat.reduceSub, Nat.reduceLeDiff, Int.reduceToNat, Int.reduceNeg, Int.reduceLT, Int.reduceLE, Int.reduceEq, reduceCtorEq, Int.natCast_zero, Int.natCast_one, Int.cast_ofNat_Int, Bool.not_not, false_eq_decide, true_eq_decide, hread0, hreadk, read_cons0, read_consk, astore_h0, astore_hk, hget0, hgetk, hset0, hsetk, hlen, hcat, Nat.add_assoc, Nat.add_zero, Nat.zero_add, List.length_append, and_true, true_and, AV.flat, *, -hK, -g1, -kJ, -hn1, -hn2, -hlt, -hv] | with_reducible refine IfB_dec (fun h => ?_) (fun h => ?_) | with_reducible refine Guard_dec (fun h => ?_) (fun h => ?_) | with_reducible refine Guard_ndec (fun h => ?_) (fun h => ?_) | with_reducible refine Guard_not (fun h => ?_) (fun h => ?_) | with_reducible refine IfB_ndec (fun h => ?_) (fun h => ?_) | with_reducible refine IfB_not (fun h => ?_) (fun h => ?_) | with_reducible refine Guard_split (fun h => ?_) (fun h => ?_) | with_reducible refine IfB_split (fun h => ?_) (fun h => ?_))
    exact hK _ _ (Thaw.tup_row ⟨.str _, .atom _ rfl, trivial⟩) kJ
  have i1 : (i : Int) < 2 := by omega
  have hcases : i = 0 ∨ i = 1 := by omega
  rcases hcases with rfl | rfl
  · cases hemp : t.isEmpty with
    | true =>
      have ht : t = [] := by simpa using hemp
      subst ht
      have e30 : IntKind.i64.wrap (0 + 1) = 1 := by rw [IntKind.wrap_i64]; decide
      have back : ∀ fr2, A fr2 → fr2.get 13 = .int .i64 1 → R fr2 J := fun fr2 ha q1 => hR fr2 J ha 1 (by omega) ⟨1, rfl, by omega, q1, rfl, fun _ => rfl, fun h => by omega⟩
      clear hR
      repeat' (first | simp only [go_sem, Nat.reduceLT, Nat.reduceEqDiff, Nat.reduceAdd, Nat.reduceMul, Nat.reduceSub, Nat.reduceLeDiff, Int.reduceToNat, Int.reduceNeg, Int.reduceLT, Int.reduceLE, Int.reduceEq, reduceCtorEq, Int.natCast_zero, Int.natCast_one, Int.cast_ofNat_Int, Bool.not_not, false_eq_decide, true_eq_decide, hread0, hreadk, read_cons0, read_consk, astore_h0, astore_hk, hget0, hgetk, hset0, hsetk, hlen, hcat, Nat.add_assoc, Nat.add_zero, Nat.zero_add, List.length_append, and_true, true_and, AV.flat, g1, get_app g1, read_get g1, read_app g1, *, -hK, -kJ, -hn1, -hn2, -hlt, -hemp, -back] | with_reducible refine IfB_dec (fun h => ?_) (fun h => ?_) | with_reducible refine Guard_dec (fun h => ?_) (fun h => ?_) | with_reducible refine Guard_ndec (fun h => ?_) (fun h => ?_) | with_reducible refine Guard_not (fun h => ?_) (fun h => ?_) | with_reducible refine IfB_ndec (fun h => ?_) (fun h => ?_) | with_reducible refine IfB_not (fun h => ?_) (fun h => ?_) | with_reducible refine Guard_split (fun h => ?_) (fun h => ?_) | with_reducible refine IfB_split (fun h => ?_) (fun h => ?_))
      exact back _ (by (repeat (first | exact hs | refine hA _ _ _ (by decide) ?_))) (by simp only [go_sem, Nat.reduceLT, Nat.reduceEqDiff, Nat.reduceAdd, Nat.reduceMul, Nat.reduceSub, Nat.reduceLeDiff, Int.reduceToNat, Int.reduceNeg, Int.reduceLT, Int.reduceLE, Int.reduceEq, reduceCtorEq]; try exact congrArg _ e30)
    | false =>
      have hne : t ≠ [] := by simpa using hemp
      obtain ⟨hz, hlast⟩ := last_get hne
      have hpos : ((t).length : Int) > 0 := by omega
      have e4 := at_enc (E := Enc.str) (T := T) (k := .i64) se22 hz rfl
      rw [str_cells] at e4
      have w1 : IntKind.i64.wrap (((t).length : Int) - 1) = (((t).length - 1 : Nat) : Int) := by rw [IntKind.wrap_i64]; omega
      have hv : vicO ⟨t, k⟩ = ((t)[(t).length - 1], true) := (by unfold vicO; simp only; rw [if_neg hne, hlast])
      rw [hv] at hK
      clear hR hv hlast
      generalize (t)[(t).length - 1] = lst at *
      repeat' (first | simp only [go_sem, Nat.reduceLT, Nat.reduceEqDiff, Nat.reduceAdd, Nat.reduceMul, Nat.reduceSub, Nat.reduceLeDiff, Int.reduceToNat, Int.reduceNeg, Int.reduceLT, Int.reduceLE, Int.reduceEq, reduceCtorEq, Int.natCast_zero, Int.natCast_one, Int.cast_ofNat_Int, Bool.not_not, false_eq_decide, true_eq_decide, hread0, hreadk, read_cons0, read_consk, astore_h0, astore_hk, hget0, hgetk, hset0, hsetk, hlen, hcat, Nat.add_assoc, Nat.add_zero, Nat.zero_add, List.length_append, and_true, true_and, AV.flat, g1, get_app g1, read_get g1, read_app g1, *, -hK, -hn1, -hn2, -hne, -hemp, -hz, -kJ] | with_reducible refine IfB_dec (fun h => ?_) (fun h => ?_) | with_reducible refine Guard_dec (fun h => ?_) (fun h => ?_) | with_reducible refine Guard_ndec (fun h => ?_) (fun h => ?_) | with_reducible refine Guard_not (fun h => ?_) (fun h => ?_) | with_reducible refine IfB_ndec (fun h => ?_) (fun h => ?_) | with_reducible refine IfB_not (fun h => ?_) (fun h => ?_) | with_reducible refine Guard_split (fun h => ?_) (fun h => ?_) | with_reducible refine IfB_split (fun h => ?_) (fun h => ?_))
      exact hK _ _ (Thaw.tup_row ⟨.str _, .atom _ rfl, trivial⟩) kJ
  · have ht := hn1 (by omega)
    cases hemp : k.isEmpty with
    | true =>
      have hk : k = [] := by simpa using hemp
      subst hk
      have e30 : IntKind.i64.wrap (1 + 1) = 2 := by rw [IntKind.wrap_i64]; decide
      have back : ∀ fr2, A fr2 → fr2.get 13 = .int .i64 2 → R fr2 J := fun fr2 ha q1 => hR fr2 J ha 0 (by omega) ⟨2, rfl, by omega, q1, rfl, fun _ => ht, fun _ => rfl⟩
      clear hR
      repeat' (first | simp only [go_sem, Nat.reduceLT, Nat.reduceEqDiff, Nat.reduceAdd, Nat.reduceMul, Nat.reduceSub, Nat.reduceLeDiff, Int.reduceToNat, Int.reduceNeg, Int.reduceLT, Int.reduceLE, Int.reduceEq, reduceCtorEq, Int.natCast_zero, Int.natCast_one, Int.cast_ofNat_Int, Bool.not_not, false_eq_decide, true_eq_decide, hread0, hreadk, read_cons0, read_consk, astore_h0, astore_hk, hget0, hgetk, hset0, hsetk, hlen, hcat, Nat.add_assoc, Nat.add_zero, Nat.zero_add, List.length_append, and_true, true_and, AV.flat, g1, get_app g1, read_get g1, read_app g1, *, -hK, -kJ, -hn1, -hn2, -hlt, -hemp, -back, -ht] | with_reducible refine IfB_dec (fun h => ?_) (fun h => ?_) | with_reducible refine Guard_dec (fun h => ?_) (fun h => ?_) | with_reducible refine Guard_ndec (fun h => ?_) (fun h => ?_) | with_reducible refine Guard_not (fun h => ?_) (fun h => ?_) | with_reducible refine IfB_ndec (fun h => ?_) (fun h => ?_) | with_reducible refine IfB_not (fun h => ?_) (fun h => ?_) | with_reducible refine Guard_split (fun h => ?_) (fun h => ?_) | with_reducible refine IfB_split (fun h => ?_) (fun h => ?_))
      exact back _ (by (repeat (first | exact hs | refine hA _ _ _ (by decide) ?_))) (by simp only [go_sem, Nat.reduceLT, Nat.reduceEqDiff, Nat.reduceAdd, Nat.reduceMul, Nat.reduceSub, Nat.reduceLeDiff, Int.reduceToNat, Int.reduceNeg, Int.reduceLT, Int.reduceLE, Int.reduceEq, reduceCtorEq]; try exact congrArg _ e30)
    | false =>
      have hne : k ≠ [] := by simpa using hemp
      obtain ⟨hz, hlast⟩ := last_get hne
      have hpos : ((k).length : Int) > 0 := by omega
      have e4 := at_enc (E := Enc.str) (T := T) (k := .i64) se22 hz rfl
      rw [str_cells] at e4
      have w1 : IntKind.i64.wrap (((k).length : Int) - 1) = (((k).length - 1 : Nat) : Int) := by rw [IntKind.wrap_i64]; omega
      have hv : vicO ⟨t, k⟩ = ((k)[(k).length - 1], true) := (by unfold vicO; simp only; rw [if_pos ht, if_neg hne, hlast])
      rw [hv] at hK
      clear hR hv hlast
      generalize (k)[(k).length - 1] = lst at *
      repeat' (first | simp only [go_sem, Nat.reduceLT, Nat.reduceEqDiff, Nat.reduceAdd, Nat.reduceMul, Nat.reduceSub, Nat.reduceLeDiff, Int.reduceToNat, Int.reduceNeg, Int.reduceLT, Int.reduceLE, Int.reduceEq, reduceCtorEq, Int.natCast_zero, Int.natCast_one, Int.cast_ofNat_Int, Bool.not_not, false_eq_decide, true_eq_decide, hread0, hreadk, read_cons0, read_consk, astore_h0, astore_hk, hget0, hgetk, hset0, hsetk, hlen, hcat, Nat.add_assoc, Nat.add_zero, Nat.zero_add, List.length_append, and_true, true_and, AV.flat, g1, get_app g1, read_get g1, read_app g1, *, -hK, -hn1, -hn2, -hne, -hemp, -hz, -kJ] | with_reducible refine IfB_dec (fun h => ?_) (fun h => ?_) | with_reducible refine Guard_dec (fun h => ?_) (fun h => ?_) | with_reducible refine Guard_ndec (fun h => ?_) (fun h => ?_) | with_reducible refine Guard_not (fun h => ?_) (fun h => ?_) | with_reducible refine IfB_ndec (fun h => ?_) (fun h => ?_) | with_reducible refine IfB_not (fun h => ?_) (fun h => ?_) | with_reducible refine Guard_split (fun h => ?_) (fun h => ?_) | with_reducible refine IfB_split (fun h => ?_) (fun h => ?_))
      exact hK _ _ (Thaw.tup_row ⟨.str _, .atom _ rfl, trivial⟩) kJ
def vicE (o : Ord) : Int := if o.may then (if (vicO o).2 = true then 0 else 6) else 8
def vicS (o : Ord) : List UInt8 := if o.may then (vicO o).1 else []
theorem vicO_none {o : Ord} (h : (vicO o).2 = false) : (vicO o).1 = [] ∧ o.t = [] ∧ o.k = [] := by
  unfold vicO at h ⊢
  by_cases h1 : o.t = []
  · rw [if_pos h1] at h ⊢
    by_cases h2 : o.k = []
    · rw [if_pos h2]; exact ⟨rfl, h1, h2⟩
    · rw [if_neg h2] at h; cases h
  · rw [if_neg h1] at h; cases h
theorem Victim_spec (o : Ord) (hf : o.fit) (H : Heap) : WC Try.prog 16 [o.av] H fun r H' => r = .tup [.str (vicS o), .int .i64 (vicE o)] ∧ H' = H := by
  refine WC_val fun K hK => ?_
  have ck := fun J => check_spec o hf J
  have vc := fun J => victim_spec o hf J
  by_cases hm : o.may
  rotate_left
  · rw [ordE_bad hm] at ck
    rw [show vicS o = [] from if_neg hm, show vicE o = 8 from if_neg hm] at hK
    unfold Ord.av at *
    refine WC_of_body hT Try.func16 rfl (by simp [Try.f16]) (by simp [Try.f16]) (wx_sound hT _ ?_)
    simp only [Try.f16]
    repeat' (first | simp only [go_sem, Nat.reduceLT, Nat.reduceEqDiff, Nat.reduceAdd, Nat.reduceMul, Nat.reduceSub, Nat.reduceLeDiff, Int.reduceToNat, Int.reduceNeg, Int.reduceLT, Int.reduceLE, Int.reduceEq, reduceCtorEq, Int.natCast_zero, Int.natCast_one, Int.cast_ofNat_Int, Bool.not_not, false_eq_decide, true_eq_decide, hread0, hreadk, read_cons0, read_consk, astore_h0, astore_hk, hget0, hgetk, hset0, hsetk, hlen, hcat, Nat.add_assoc, Nat.add_zero, Nat.zero_add, List.length_append, and_true, true_and, AV.flat, *, -hK, -ck, -vc, -hm, -hf] | refine WC.call (ck _) ?_ | with_reducible refine IfB_dec (fun h => ?_) (fun h => ?_) | with_reducible refine Guard_dec (fun h => ?_) (fun h => ?_) | with_reducible refine Guard_ndec (fun h => ?_) (fun h => ?_) | with_reducible refine Guard_not (fun h => ?_) (fun h => ?_) | with_reducible refine IfB_ndec (fun h => ?_) (fun h => ?_) | with_reducible refine IfB_not (fun h => ?_) (fun h => ?_) | with_reducible refine Guard_split (fun h => ?_) (fun h => ?_) | with_reducible refine IfB_split (fun h => ?_) (fun h => ?_))
    exact hK _ _ (Thaw.tup_row ⟨.str _, .int _ _, trivial⟩) (Keep.app _ _ _)
  rw [ordE_ok hm] at ck
  rw [show vicS o = (vicO o).1 from if_pos hm, show vicE o = if (vicO o).2 = true then 0 else 6 from if_pos hm] at hK
  have hno := vicO_none (o := o)
  generalize vicO o = v at *
  obtain ⟨s, b⟩ := v
  simp only at hK vc hno
  unfold Ord.av at *
  cases b with
  | true =>
    rw [if_pos rfl] at hK
    refine WC_of_body hT Try.func16 rfl (by simp [Try.f16]) (by simp [Try.f16]) (wx_sound hT _ ?_)
    simp only [Try.f16]
    repeat' (first | simp only [go_sem, Nat.reduceLT, Nat.reduceEqDiff, Nat.reduceAdd, Nat.reduceMul, Nat.reduceSub, Nat.reduceLeDiff, Int.reduceToNat, Int.reduceNeg, Int.reduceLT, Int.reduceLE, Int.reduceEq, reduceCtorEq, Int.natCast_zero, Int.natCast_one, Int.cast_ofNat_Int, Bool.not_not, false_eq_decide, true_eq_decide, hread0, hreadk, read_cons0, read_consk, astore_h0, astore_hk, hget0, hgetk, hset0, hsetk, hlen, hcat, Nat.add_assoc, Nat.add_zero, Nat.zero_add, List.length_append, and_true, true_and, AV.flat, *, -hK, -ck, -vc, -hm, -hf, -hno] | refine WC.call (ck _) ?_ | refine WC.call (vc _) ?_ | with_reducible refine IfB_dec (fun h => ?_) (fun h => ?_) | with_reducible refine Guard_dec (fun h => ?_) (fun h => ?_) | with_reducible refine Guard_ndec (fun h => ?_) (fun h => ?_) | with_reducible refine Guard_not (fun h => ?_) (fun h => ?_) | with_reducible refine IfB_ndec (fun h => ?_) (fun h => ?_) | with_reducible refine IfB_not (fun h => ?_) (fun h => ?_) | with_reducible refine Guard_split (fun h => ?_) (fun h => ?_) | with_reducible refine IfB_split (fun h => ?_) (fun h => ?_))
    exact hK _ _ (Thaw.tup_row ⟨.str _, .int _ _, trivial⟩) (Keep.app _ _ _)
  | false =>
    rw [if_neg (by decide), (hno rfl).1] at hK
    refine WC_of_body hT Try.func16 rfl (by simp [Try.f16]) (by simp [Try.f16]) (wx_sound hT _ ?_)
    simp only [Try.f16]
    repeat' (first | simp only [go_sem, Nat.reduceLT, Nat.reduceEqDiff, Nat.reduceAdd, Nat.reduceMul, Nat.reduceSub, Nat.reduceLeDiff, Int.reduceToNat, Int.reduceNeg, Int.reduceLT, Int.reduceLE, Int.reduceEq, reduceCtorEq, Int.natCast_zero, Int.natCast_one, Int.cast_ofNat_Int, Bool.not_not, false_eq_decide, true_eq_decide, hread0, hreadk, read_cons0, read_consk, astore_h0, astore_hk, hget0, hgetk, hset0, hsetk, hlen, hcat, Nat.add_assoc, Nat.add_zero, Nat.zero_add, List.length_append, and_true, true_and, AV.flat, *, -hK, -ck, -vc, -hm, -hf, -hno] | refine WC.call (ck _) ?_ | refine WC.call (vc _) ?_ | with_reducible refine IfB_dec (fun h => ?_) (fun h => ?_) | with_reducible refine Guard_dec (fun h => ?_) (fun h => ?_) | with_reducible refine Guard_ndec (fun h => ?_) (fun h => ?_) | with_reducible refine Guard_not (fun h => ?_) (fun h => ?_) | with_reducible refine IfB_ndec (fun h => ?_) (fun h => ?_) | with_reducible refine IfB_not (fun h => ?_) (fun h => ?_) | with_reducible refine Guard_split (fun h => ?_) (fun h => ?_) | with_reducible refine IfB_split (fun h => ?_) (fun h => ?_))
    exact hK _ _ (Thaw.tup_row ⟨.str _, .int _ _, trivial⟩) (Keep.app _ _ _)
def tot (o : Ord) : Nat := o.t.length + o.k.length
theorem vicO_mem {o : Ord} (h : (vicO o).2 = true) : (o.t ≠ [] ∧ (vicO o).1 ∈ o.t) ∨ (o.t = [] ∧ (vicO o).1 ∈ o.k) := by
  unfold vicO at h ⊢
  by_cases h1 : o.t = []
  · rw [if_pos h1] at h ⊢
    by_cases h2 : o.k = []
    · rw [if_pos h2] at h; cases h
    · rw [if_neg h2]
      obtain ⟨hz, e⟩ := last_get h2
      exact .inr ⟨h1, by show o.k.getLast?.getD [] ∈ o.k; rw [e]; exact List.getElem_mem hz⟩
  · rw [if_neg h1]
    obtain ⟨hz, e⟩ := last_get h1
    exact .inl ⟨h1, by show o.t.getLast?.getD [] ∈ o.t; rw [e]; exact List.getElem_mem hz⟩
theorem takeO_tot {o : Ord} {s : List UInt8} (h : s ∈ o.t ∨ s ∈ o.k) : tot (takeO o s) = tot o - 1 := by
  unfold takeO tot
  by_cases h1 : s ∈ o.t
  · rw [if_pos h1]
    have := List.length_pos_of_mem h1
    simp only [List.length_erase_of_mem h1]; omega
  · rw [if_neg h1]
    have h2 := h.resolve_left h1
    have := List.length_pos_of_mem h2
    simp only [List.length_erase_of_mem h2]; omega
theorem levelO_tot (o : Ord) : tot (levelO o) = tot o := by
  unfold levelO tot
  simp only [List.length_append, List.length_drop, List.length_take]
  omega
def allL : Nat → Ord → List (List UInt8)
  | 0, _ => []
  | n + 1, o => if (vicO o).2 = true then (vicO o).1 :: allL n (levelO (takeO o (vicO o).1)) else []
theorem vic_some {o : Ord} (h : (vicO o).2 = true) : (vicO o).1 ∈ o.t ∨ (vicO o).1 ∈ o.k := (vicO_mem h).imp And.right And.right
theorem vic_tot {o : Ord} (h : (vicO o).2 = true) : 0 < tot o := by
  unfold tot
  rcases vic_some h with h | h <;> (have := List.length_pos_of_mem h; omega)
theorem allL_len : ∀ (n : Nat) (o : Ord), (allL n o).length ≤ n
  | 0, _ => Nat.le_refl _
  | n + 1, o => by
    unfold allL
    split
    · have := allL_len n (levelO (takeO o (vicO o).1)); simp only [List.length_cons]; omega
    · simp
def allO (o : Ord) : List (List UInt8) := if o.may then allL (tot o) o else []
theorem OO.app {m q : Nat} {J J3 : Heap} {o : Ord} {vt vk w w' : AV} (x : OO w.blk m J q o vt vk) (k : Keep w.blk J J3) (hn : ∀ b, w'.blk = some b → w.blk = some b ∨ J.length ≤ b) (hl : ∀ b, w'.blk = some b → b < J3.length) : OO w'.blk m J3 q o vt vk := by
  have hz : ∀ b, w.blk = some b → b ≠ q := fun b hb => (x.zt b hb).2.2.2
  refine ⟨k.get x.bq (fun e => hz q e rfl), own_same x.ot fun b hb => k.at_ b (x.ot.lt hb) (fun e => (x.zt b e).1 hb), own_same x.ok fun b hb => k.at_ b (x.ok.lt hb) (fun e => (x.zt b e).2.1 hb), x.tq, x.kq, x.dis, Nat.le_trans x.le k.len, fun b hb => ⟨fun e => ?_, fun e => ?_, hl b hb, fun e => ?_⟩⟩
  · rcases hn b hb with h | h
    · exact (x.zt b h).1 e
    · have := x.ot.lt e; omega
  · rcases hn b hb with h | h
    · exact (x.zt b h).2.1 e
    · have := x.ok.lt e; omega
  · rcases hn b hb with h | h
    · exact (x.zt b h).2.2.2 e
    · have := x.lt; omega
theorem victim_lent {zb : Option Nat} {m q : Nat} {H : Heap} {o : Ord} {vt vk : AV} (x : OO zb m H q o vt vk) (hf : o.fit) : WC Try.prog 36 [.agg [vt, vk]] H fun r H' => r = .tup [.str (vicO o).1, .bool (vicO o).2] ∧ H' = H :=
  WC_lend_val (args := [.agg [vt, vk]]) (args' := [o.av]) ⟨Thaw.agg_row (l' := [_, _]) ⟨OwnE.thaw (E := Enc.str) (Own.mono x.ot (Nat.zero_le _)) (by decide), OwnE.thaw (E := Enc.str) (Own.mono x.ok (Nat.zero_le _)) (by decide), trivial⟩, trivial⟩
    (.tup _ (Nofz.row fun a ha => by simp only [List.mem_cons, List.not_mem_nil, or_false] at ha; rcases ha with rfl | rfl <;> exact .cell _ rfl)) (fun J => victim_spec o hf J)
end Go.Proofs.Ytakllaigpjbgdaa
