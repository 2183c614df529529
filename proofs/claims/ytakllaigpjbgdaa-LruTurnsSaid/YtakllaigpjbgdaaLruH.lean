import Derived.Test.YtakllaigpjbgdaaLruG
set_option linter.unusedSimpArgs false
set_option linter.unusedVariables false
set_option maxRecDepth 100000
set_option maxHeartbeats 4000000
namespace Go.Proofs.Ytakllaigpjbgdaa
open Go Go.Proofs Go.Proofs.PI
instance (o : Ord) : Decidable o.fit := by unfold Ord.fit; infer_instance
theorem flat_take (l : List (List UInt8)) (i : Nat) : (l.take i).flatten.length ≤ l.flatten.length := by
  have h := congrArg (fun l => (List.flatten l).length) (List.take_append_drop i l)
  simp only [List.flatten_append, List.length_append] at h
  omega
theorem rows_spec (o : Ord) (hf : o.fit) (hb : o.t.flatten.length + o.k.flatten.length ≤ 1000000) (x y : List UInt8) (H : Heap) : WC Try.prog 21 [o.av, .str x, .str y] H fun r H' => r = .bool (decide (o.t.flatten = x) && decide (o.k.flatten = y)) ∧ H' = H := by
  refine WC_val fun K hK => ?_
  obtain ⟨t, k⟩ := o
  obtain ⟨h1, h2⟩ := hf
  simp only at h1 h2 hK hb
  unfold Ord.av
  simp only
  refine WC_of_body hT Try.func21 rfl (by simp [Try.f21]) (by simp [Try.f21]) (wx_sound hT _ ?_)
  simp only [Try.f21]
  repeat' (first | simp only [go_sem, Nat.reduceLT, Nat.reduceEqDiff, Nat.reduceAdd, Nat.reduceMul, Nat.reduceSub, Nat.reduceLeDiff, Int.reduceToNat, Int.reduceNeg, Int.reduceLT, Int.reduceLE, Int.reduceEq, reduceCtorEq, Int.natCast_zero, Int.natCast_one, Int.cast_ofNat_Int, Bool.not_not, false_eq_decide, true_eq_decide, hread0, hreadk, read_cons0, read_consk, astore_h0, astore_hk, hget0, hgetk, hset0, hsetk, hlen, hcat, Nat.add_assoc, Nat.add_zero, Nat.zero_add, List.length_append, and_true, true_and, AV.flat, *, -hK] | with_reducible refine IfB_dec (fun h => ?_) (fun h => ?_) | with_reducible refine Guard_dec (fun h => ?_) (fun h => ?_) | with_reducible refine Guard_ndec (fun h => ?_) (fun h => ?_) | with_reducible refine Guard_not (fun h => ?_) (fun h => ?_) | with_reducible refine IfB_ndec (fun h => ?_) (fun h => ?_) | with_reducible refine IfB_not (fun h => ?_) (fun h => ?_) | with_reducible refine Guard_split (fun h => ?_) (fun h => ?_) | with_reducible refine IfB_split (fun h => ?_) (fun h => ?_))
  have kG : Keep none H (H ++ [(⟨[Enc.str.lst t, Enc.str.lst k], 0, .full⟩ : Blk)]) := Keep.app _ _ _
  have g0 : (H ++ [(⟨[Enc.str.lst t, Enc.str.lst k], 0, .full⟩ : Blk)])[H.length]? = some ⟨[Enc.str.lst t, Enc.str.lst k], 0, .full⟩ := by simp
  generalize (H ++ [(⟨[Enc.str.lst t, Enc.str.lst k], 0, .full⟩ : Blk)] : Heap) = G at *
  refine WX_loopS [1, 2, 3, 8] (fun kn fr' J => ∃ i : Nat, kn = t.length - i ∧ i ≤ t.length ∧ fr'.get 9 = .int .i64 i ∧ fr'.get 7 = .str (t.take i).flatten ∧ J = G) t.length ⟨0, rfl, by omega, by simp only [go_sem, Nat.reduceLT, Nat.reduceEqDiff, Nat.reduceAdd, Nat.reduceMul, Nat.reduceSub, Nat.reduceLeDiff, Int.reduceToNat, Int.reduceNeg, Int.reduceLT, Int.reduceLE, Int.reduceEq, reduceCtorEq]; rfl, by simp only [go_sem, Nat.reduceLT, Nat.reduceEqDiff, Nat.reduceAdd, Nat.reduceMul, Nat.reduceSub, Nat.reduceLeDiff, Int.reduceToNat, Int.reduceNeg, Int.reduceLT, Int.reduceLE, Int.reduceEq, reduceCtorEq], rfl⟩ ?_
  rintro kn fr' J A R hA hs hg hR ⟨i, rfl, hi, f9, f7, rfl⟩
  have s1 := hg 1 (by decide)
  have s2 := hg 2 (by decide)
  have s3 := hg 3 (by decide)
  have s8 := hg 8 (by decide)
  simp only [Fr.get_put, Fr.get_init, List.getD_cons_zero, List.getD_cons_succ, Nat.reduceEqDiff, if_true, if_false] at s1 s2 s3 s8
  refine wx_sound hT _ ?_
  by_cases hlt : i < t.length
  · have i1 : (i : Int) < t.length := by omega
    have e3 := inc_id hlt (by omega)
    have e1 := at_enc (E := Enc.str) (T := T) (k := .i64) se22 hlt rfl
    rw [str_cells] at e1
    have hst : (t.take (i + 1)).flatten = (t.take i).flatten ++ t[i] := by rw [List.take_succ_eq_append_getElem hlt, List.flatten_append]; simp
    have back : ∀ fr2 J2, A fr2 → fr2.get 9 = .int .i64 ((i + 1 : Nat) : Int) → fr2.get 7 = .str ((t.take i).flatten ++ t[i]) → J2 = J → R fr2 J2 := fun fr2 J2 ha q1 q2 q3 => hR fr2 J2 ha (t.length - (i + 1)) (by omega) ⟨i + 1, rfl, by omega, q1, by rw [hst]; exact q2, q3⟩
    have hle : (t.take i).flatten.length + t[i].length ≤ 9223372036854775807 := by
      have h := flat_take t (i + 1)
      rw [hst, List.length_append] at h; omega
    clear hR hst
    generalize t[i] = ti at *
    generalize (t.take i).flatten = tf at *
    repeat' (first | simp only [go_sem, Nat.reduceLT, Nat.reduceEqDiff, Nat.reduceAdd, Nat.reduceMul, Nat.reduceSub, Nat.reduceLeDiff, Int.reduceToNat, Int.reduceNeg, Int.reduceLT, Int.reduceLE, Int.reduceEq, reduceCtorEq, Int.natCast_zero, Int.natCast_one, Int.cast_ofNat_Int, Bool.not_not, false_eq_decide, true_eq_decide, hread0, hreadk, read_cons0, read_consk, astore_h0, astore_hk, hget0, hgetk, hset0, hsetk, hlen, hcat, Nat.add_assoc, Nat.add_zero, Nat.zero_add, List.length_append, and_true, true_and, AV.flat, g0, get_app g0, read_get g0, read_app g0, *, -hK, -kG, -hlt, -back, -hb] | with_reducible refine IfB_dec (fun h => ?_) (fun h => ?_) | with_reducible refine Guard_dec (fun h => ?_) (fun h => ?_) | with_reducible refine Guard_ndec (fun h => ?_) (fun h => ?_) | with_reducible refine Guard_not (fun h => ?_) (fun h => ?_) | with_reducible refine IfB_ndec (fun h => ?_) (fun h => ?_) | with_reducible refine IfB_not (fun h => ?_) (fun h => ?_) | with_reducible refine Guard_split (fun h => ?_) (fun h => ?_) | with_reducible refine IfB_split (fun h => ?_) (fun h => ?_))
    exact back _ _ (by (repeat (first | exact hs | refine hA _ _ _ (by decide) ?_))) (by simp only [go_sem, Nat.reduceLT, Nat.reduceEqDiff, Nat.reduceAdd, Nat.reduceMul, Nat.reduceSub, Nat.reduceLeDiff, Int.reduceToNat, Int.reduceNeg, Int.reduceLT, Int.reduceLE, Int.reduceEq, reduceCtorEq]) (by simp only [go_sem, Nat.reduceLT, Nat.reduceEqDiff, Nat.reduceAdd, Nat.reduceMul, Nat.reduceSub, Nat.reduceLeDiff, Int.reduceToNat, Int.reduceNeg, Int.reduceLT, Int.reduceLE, Int.reduceEq, reduceCtorEq]) rfl
  have i1 : ¬ (i : Int) < t.length := by omega
  rw [List.take_of_length_le (by omega)] at f7
  repeat' (first | simp only [go_sem, Nat.reduceLT, Nat.reduceEqDiff, Nat.reduceAdd, Nat.reduceMul, Nat.reduceSub, Nat.reduceLeDiff, Int.reduceToNat, Int.reduceNeg, Int.reduceLT, Int.reduceLE, Int.reduceEq, reduceCtorEq, Int.natCast_zero, Int.natCast_one, Int.cast_ofNat_Int, Bool.not_not, false_eq_decide, true_eq_decide, hread0, hreadk, read_cons0, read_consk, astore_h0, astore_hk, hget0, hgetk, hset0, hsetk, hlen, hcat, Nat.add_assoc, Nat.add_zero, Nat.zero_add, List.length_append, and_true, true_and, AV.flat, g0, get_app g0, read_get g0, read_app g0, *, -hK, -kG, -hlt] | with_reducible refine IfB_dec (fun h => ?_) (fun h => ?_) | with_reducible refine Guard_dec (fun h => ?_) (fun h => ?_) | with_reducible refine Guard_ndec (fun h => ?_) (fun h => ?_) | with_reducible refine Guard_not (fun h => ?_) (fun h => ?_) | with_reducible refine IfB_ndec (fun h => ?_) (fun h => ?_) | with_reducible refine IfB_not (fun h => ?_) (fun h => ?_) | with_reducible refine Guard_split (fun h => ?_) (fun h => ?_) | with_reducible refine IfB_split (fun h => ?_) (fun h => ?_))
  have o1 := s1
  have o2 := s2
  have o3 := s3
  refine WX_loopS [1, 2, 3, 7] (fun kn fr2 J2 => ∃ z : Nat, kn = k.length - z ∧ z ≤ k.length ∧ fr2.get 10 = .int .i64 z ∧ fr2.get 8 = .str (k.take z).flatten ∧ J2 = J) k.length ⟨0, rfl, by omega, by simp only [go_sem, Nat.reduceLT, Nat.reduceEqDiff, Nat.reduceAdd, Nat.reduceMul, Nat.reduceSub, Nat.reduceLeDiff, Int.reduceToNat, Int.reduceNeg, Int.reduceLT, Int.reduceLE, Int.reduceEq, reduceCtorEq]; rfl, by simp only [go_sem, Nat.reduceLT, Nat.reduceEqDiff, Nat.reduceAdd, Nat.reduceMul, Nat.reduceSub, Nat.reduceLeDiff, Int.reduceToNat, Int.reduceNeg, Int.reduceLT, Int.reduceLE, Int.reduceEq, reduceCtorEq]; exact s8, rfl⟩ ?_
  clear hs s1 s2 s3 s8 hR hA hg
  rintro kn fr2 J2 A2 R2 hA hs hg hR ⟨z, rfl, hz, f10, f8, rfl⟩
  have s1 := hg 1 (by decide)
  have s2 := hg 2 (by decide)
  have s3 := hg 3 (by decide)
  have s7 := hg 7 (by decide)
  simp only [Fr.get_put, Fr.get_init, List.getD_cons_zero, List.getD_cons_succ, Nat.reduceEqDiff, if_true, if_false] at s1 s2 s3 s7
  rw [o1] at s1
  rw [o2] at s2
  rw [o3] at s3
  rw [f7] at s7
  clear o1 o2 o3 f7
  refine wx_sound hT _ ?_
  by_cases hlz : z < k.length
  · have i2 : (z : Int) < k.length := by omega
    have e3 := inc_id hlz (by omega)
    have e1 := at_enc (E := Enc.str) (T := T) (k := .i64) se22 hlz rfl
    rw [str_cells] at e1
    have hst : (k.take (z + 1)).flatten = (k.take z).flatten ++ k[z] := by rw [List.take_succ_eq_append_getElem hlz, List.flatten_append]; simp
    have back : ∀ fr3 J3, A2 fr3 → fr3.get 10 = .int .i64 ((z + 1 : Nat) : Int) → fr3.get 8 = .str ((k.take z).flatten ++ k[z]) → J3 = J2 → R2 fr3 J3 := fun fr3 J3 ha q1 q2 q3 => hR fr3 J3 ha (k.length - (z + 1)) (by omega) ⟨z + 1, rfl, by omega, q1, by rw [hst]; exact q2, q3⟩
    have hle : (k.take z).flatten.length + k[z].length ≤ 9223372036854775807 := by
      have h := flat_take k (z + 1)
      rw [hst, List.length_append] at h; omega
    clear hR hst
    generalize k[z] = ti at *
    generalize (k.take z).flatten = tf at *
    repeat' (first | simp only [go_sem, Nat.reduceLT, Nat.reduceEqDiff, Nat.reduceAdd, Nat.reduceMul, Nat.reduceSub, Nat.reduceLeDiff, Int.reduceToNat, Int.reduceNeg, Int.reduceLT, Int.reduceLE, Int.reduceEq, reduceCtorEq, Int.natCast_zero, Int.natCast_one, Int.cast_ofNat_Int, Bool.not_not, false_eq_decide, true_eq_decide, hread0, hreadk, read_cons0, read_consk, astore_h0, astore_hk, hget0, hgetk, hset0, hsetk, hlen, hcat, Nat.add_assoc, Nat.add_zero, Nat.zero_add, List.length_append, and_true, true_and, AV.flat, g0, get_app g0, read_get g0, read_app g0, *, -hK, -kG, -hlt, -hlz, -back, -hb] | with_reducible refine IfB_dec (fun h => ?_) (fun h => ?_) | with_reducible refine Guard_dec (fun h => ?_) (fun h => ?_) | with_reducible refine Guard_ndec (fun h => ?_) (fun h => ?_) | with_reducible refine Guard_not (fun h => ?_) (fun h => ?_) | with_reducible refine IfB_ndec (fun h => ?_) (fun h => ?_) | with_reducible refine IfB_not (fun h => ?_) (fun h => ?_) | with_reducible refine Guard_split (fun h => ?_) (fun h => ?_) | with_reducible refine IfB_split (fun h => ?_) (fun h => ?_))
    exact back _ _ (by (repeat (first | exact hs | refine hA _ _ _ (by decide) ?_))) (by simp only [go_sem, Nat.reduceLT, Nat.reduceEqDiff, Nat.reduceAdd, Nat.reduceMul, Nat.reduceSub, Nat.reduceLeDiff, Int.reduceToNat, Int.reduceNeg, Int.reduceLT, Int.reduceLE, Int.reduceEq, reduceCtorEq]) (by simp only [go_sem, Nat.reduceLT, Nat.reduceEqDiff, Nat.reduceAdd, Nat.reduceMul, Nat.reduceSub, Nat.reduceLeDiff, Int.reduceToNat, Int.reduceNeg, Int.reduceLT, Int.reduceLE, Int.reduceEq, reduceCtorEq]) rfl
  have i2 : ¬ (z : Int) < k.length := by omega
  rw [List.take_of_length_le (by omega)] at f8
  clear hR
  cases hx : decide (t.flatten = x) with
  | true =>
    have hx' := of_decide_eq_true hx
    rw [hx, Bool.true_and] at hK
    repeat' (first | simp only [go_sem, Nat.reduceLT, Nat.reduceEqDiff, Nat.reduceAdd, Nat.reduceMul, Nat.reduceSub, Nat.reduceLeDiff, Int.reduceToNat, Int.reduceNeg, Int.reduceLT, Int.reduceLE, Int.reduceEq, reduceCtorEq, Int.natCast_zero, Int.natCast_one, Int.cast_ofNat_Int, Bool.not_not, false_eq_decide, true_eq_decide, hread0, hreadk, read_cons0, read_consk, astore_h0, astore_hk, hget0, hgetk, hset0, hsetk, hlen, hcat, Nat.add_assoc, Nat.add_zero, Nat.zero_add, List.length_append, and_true, true_and, AV.flat, g0, get_app g0, read_get g0, read_app g0, *, -hK, -kG, -hlt, -hlz, -hx] | with_reducible refine IfB_dec (fun h => ?_) (fun h => ?_) | with_reducible refine Guard_dec (fun h => ?_) (fun h => ?_) | with_reducible refine Guard_ndec (fun h => ?_) (fun h => ?_) | with_reducible refine Guard_not (fun h => ?_) (fun h => ?_) | with_reducible refine IfB_ndec (fun h => ?_) (fun h => ?_) | with_reducible refine IfB_not (fun h => ?_) (fun h => ?_) | with_reducible refine Guard_split (fun h => ?_) (fun h => ?_) | with_reducible refine IfB_split (fun h => ?_) (fun h => ?_))
    exact hK _ _ (Thaw.atom _ rfl) kG
  | false =>
    have hx' := of_decide_eq_false hx
    rw [hx, Bool.false_and] at hK
    repeat' (first | simp only [go_sem, Nat.reduceLT, Nat.reduceEqDiff, Nat.reduceAdd, Nat.reduceMul, Nat.reduceSub, Nat.reduceLeDiff, Int.reduceToNat, Int.reduceNeg, Int.reduceLT, Int.reduceLE, Int.reduceEq, reduceCtorEq, Int.natCast_zero, Int.natCast_one, Int.cast_ofNat_Int, Bool.not_not, false_eq_decide, true_eq_decide, hread0, hreadk, read_cons0, read_consk, astore_h0, astore_hk, hget0, hgetk, hset0, hsetk, hlen, hcat, Nat.add_assoc, Nat.add_zero, Nat.zero_add, List.length_append, and_true, true_and, AV.flat, g0, get_app g0, read_get g0, read_app g0, *, -hK, -kG, -hlt, -hlz, -hx] | with_reducible refine IfB_dec (fun h => ?_) (fun h => ?_) | with_reducible refine Guard_dec (fun h => ?_) (fun h => ?_) | with_reducible refine Guard_ndec (fun h => ?_) (fun h => ?_) | with_reducible refine Guard_not (fun h => ?_) (fun h => ?_) | with_reducible refine IfB_ndec (fun h => ?_) (fun h => ?_) | with_reducible refine IfB_not (fun h => ?_) (fun h => ?_) | with_reducible refine Guard_split (fun h => ?_) (fun h => ?_) | with_reducible refine IfB_split (fun h => ?_) (fun h => ?_))
    exact hK _ _ (Thaw.atom _ rfl) kG
theorem al1 : ofL ord0 [[97], [98], [99]] = (⟨[[99], [98], [97]], []⟩, true) := by kernel_rfl
theorem al2 : hitE ⟨[[99], [98], [97]], []⟩ [97] = 0 := by kernel_rfl
theorem al3 : hitO ⟨[[99], [98], [97]], []⟩ [97] = ⟨[[99], [98]], [[97]]⟩ := by kernel_rfl
theorem al4 : vicE ⟨[[99], [98]], [[97]]⟩ = 0 := by kernel_rfl
theorem al5 : vicS ⟨[[99], [98]], [[97]]⟩ = [98] := by kernel_rfl
theorem alive_spec (H : Heap) : WC Try.prog 9 [] H fun r H' => r = .bool true ∧ H' = H := by
  refine WC_val fun K hK => ?_
  have c1 := fun J => of_spec [[97], [98], [99]] (by simp) J
  have c2 := fun J => hit_spec ⟨[[99], [98], [97]], []⟩ (by decide) [97] J
  have c3 := fun J => Victim_spec ⟨[[99], [98]], [[97]]⟩ (by decide) J
  have c4 := fun J => rows_spec ⟨[[99], [98]], [[97]]⟩ (by decide) (by decide) [99, 98] [97] J
  rw [al1] at c1
  rw [al2, al3] at c2
  rw [al4, al5] at c3
  rw [show (decide (([[99], [98]] : List (List UInt8)).flatten = [99, 98]) && decide (([[97]] : List (List UInt8)).flatten = [97])) = true from rfl] at c4
  unfold Ord.av at c1 c2 c3 c4
  simp only at c1 c2 c3 c4
  generalize ([[99], [98], [97]] : List (List UInt8)) = l1 at *
  generalize ([[99], [98]] : List (List UInt8)) = l2 at *
  generalize ([[97]] : List (List UInt8)) = l3 at *
  refine WC_of_body hT Try.func9 rfl (by simp [Try.f9]) (by simp [Try.f9]) (wx_sound hT _ ?_)
  simp only [Try.f9]
  repeat' (first | simp only [go_sem, Nat.reduceLT, Nat.reduceEqDiff, Nat.reduceAdd, Nat.reduceMul, Nat.reduceSub, Nat.reduceLeDiff, Int.reduceToNat, Int.reduceNeg, Int.reduceLT, Int.reduceLE, Int.reduceEq, reduceCtorEq, Int.natCast_zero, Int.natCast_one, Int.cast_ofNat_Int, Bool.not_not, false_eq_decide, true_eq_decide, hread0, hreadk, read_cons0, read_consk, astore_h0, astore_hk, hget0, hgetk, hset0, hsetk, hlen, hcat, Nat.add_assoc, Nat.add_zero, Nat.zero_add, List.length_append, and_true, true_and, AV.flat, *, -hK, -c1, -c2, -c3, -c4] | with_reducible refine IfB_dec (fun h => ?_) (fun h => ?_) | with_reducible refine Guard_dec (fun h => ?_) (fun h => ?_) | with_reducible refine Guard_ndec (fun h => ?_) (fun h => ?_) | with_reducible refine Guard_not (fun h => ?_) (fun h => ?_) | with_reducible refine IfB_ndec (fun h => ?_) (fun h => ?_) | with_reducible refine IfB_not (fun h => ?_) (fun h => ?_) | with_reducible refine Guard_split (fun h => ?_) (fun h => ?_) | with_reducible refine IfB_split (fun h => ?_) (fun h => ?_))
  refine WC_freezeE [Enc.str.lst [[97], [98], [99]]] (m := H.length) (E := Enc.str) (v := .sl H.length 0 3 none) (xs := [[97], [98], [99]]) (Own.whole (st := .full) (Nat.le_refl _) (by simp; exact ⟨rfl, rfl⟩) rfl rfl) (by decide) ⟨.here, trivial⟩ ?_
  intro G hF
  have kG : Keep none H G := ⟨by rw [hF.len]; simp, fun b hb _ => by rw [hF.other b (by simp only [AV.blk, ne_eq, Option.some.injEq]; omega), List.getElem?_append_left hb]⟩
  clear hF
  refine (c1 G).mono ?_
  rintro _ J9 ⟨rfl, hJ9⟩
  replace hJ9 := hJ9.symm
  subst hJ9
  repeat' (first | simp only [go_sem, Nat.reduceLT, Nat.reduceEqDiff, Nat.reduceAdd, Nat.reduceMul, Nat.reduceSub, Nat.reduceLeDiff, Int.reduceToNat, Int.reduceNeg, Int.reduceLT, Int.reduceLE, Int.reduceEq, reduceCtorEq, Int.natCast_zero, Int.natCast_one, Int.cast_ofNat_Int, Bool.not_not, false_eq_decide, true_eq_decide, hread0, hreadk, read_cons0, read_consk, astore_h0, astore_hk, hget0, hgetk, hset0, hsetk, hlen, hcat, Nat.add_assoc, Nat.add_zero, Nat.zero_add, List.length_append, and_true, true_and, AV.flat, *, -hK, -c1, -c2, -c3, -c4, -kG] | refine WC.call (c2 _) ?_ | refine WC.call (c3 _) ?_ | refine WC.call (c4 _) ?_ | with_reducible refine IfB_dec (fun h => ?_) (fun h => ?_) | with_reducible refine Guard_dec (fun h => ?_) (fun h => ?_) | with_reducible refine Guard_ndec (fun h => ?_) (fun h => ?_) | with_reducible refine Guard_not (fun h => ?_) (fun h => ?_) | with_reducible refine IfB_ndec (fun h => ?_) (fun h => ?_) | with_reducible refine IfB_not (fun h => ?_) (fun h => ?_) | with_reducible refine Guard_split (fun h => ?_) (fun h => ?_) | with_reducible refine IfB_split (fun h => ?_) (fun h => ?_))
  exact hK _ _ (.bool _) (kG.trans (Keep.app _ _ _))
end Go.Proofs.Ytakllaigpjbgdaa
