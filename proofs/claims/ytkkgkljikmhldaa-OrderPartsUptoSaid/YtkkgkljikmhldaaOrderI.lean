import Derived.Test.YtkkgkljikmhldaaOrderF
import Derived.Test.YtkkgkljikmhldaaOrderJ
import Derived.Test.YtkkgkljikmhldaaOrderK
set_option linter.unusedSimpArgs false
set_option linter.unusedVariables false
set_option maxRecDepth 100000
set_option maxHeartbeats 2000000
namespace Go.Proofs.Ytkkgkljikmhldaa
open Go Go.Proofs Go.Proofs.PI
theorem refCheck_spec (c : Cmd) (hn : c.keys.length ≤ 1000) (H : Heap) : WC Try.prog 16 [c.av] H fun r H' => r = .int .i64 (ordE c) ∧ H' = H := by
  refine WC_val fun K hK => ?_
  refine WC_of_body hT Try.func16 rfl (by simp [Try.f16]) (by simp [Try.f16]) (wx_sound hT _ ?_)
  simp only [Try.f16]
  repeat' (first | simp only [go_sem, Nat.reduceLT, Nat.reduceEqDiff, Nat.reduceAdd, Nat.reduceMul, Nat.reduceSub, Nat.reduceLeDiff, Int.reduceToNat, Int.reduceNeg, Int.reduceLT, Int.reduceLE, Int.reduceEq, reduceCtorEq, Int.natCast_zero, Int.natCast_one, Int.cast_ofNat_Int, Bool.not_not, false_eq_decide, true_eq_decide, hread0, hreadk, read_cons0, read_consk, astore_h0, astore_hk, hget0, hgetk, hset0, hsetk, hlen, hcat, Nat.add_assoc, Nat.add_zero, Nat.zero_add, List.length_append, and_true, true_and, AV.flat, Cmd.av, *, -hK] | refine WC.call (refMay_spec c (by omega) _) ?_ | with_reducible refine IfB_dec (fun h => ?_) (fun h => ?_) | with_reducible refine Guard_dec (fun h => ?_) (fun h => ?_) | with_reducible refine Guard_ndec (fun h => ?_) (fun h => ?_) | with_reducible refine Guard_not (fun h => ?_) (fun h => ?_) | with_reducible refine IfB_ndec (fun h => ?_) (fun h => ?_) | with_reducible refine IfB_not (fun h => ?_) (fun h => ?_) | with_reducible refine Guard_split (fun h => ?_) (fun h => ?_) | with_reducible refine IfB_split (fun h => ?_) (fun h => ?_))
  all_goals (refine hK _ _ (Thaw.of_eq ?_ rfl) (Keep.app _ _ _); simp [ordE, *, -hK])
theorem refOf_spec (c : Cmd) (k : List UInt8) (n : Int) (hk : k.length ≤ 100000) (H : Heap) : WC Try.prog 40 [c.av, .str k, .int .i64 n] H fun r H' => r = .int .i64 (shardL c.ten k n).1 ∧ H' = H := by
  refine WC_val fun K hK => ?_
  refine WC_of_body hT Try.func40 rfl (by simp [Try.f40]) (by simp [Try.f40]) (wx_sound hT _ ?_)
  simp only [Try.f40]
  repeat' (first | simp only [go_sem, Nat.reduceLT, Nat.reduceEqDiff, Nat.reduceAdd, Nat.reduceMul, Nat.reduceSub, Nat.reduceLeDiff, Int.reduceToNat, Int.reduceNeg, Int.reduceLT, Int.reduceLE, Int.reduceEq, reduceCtorEq, Int.natCast_zero, Int.natCast_one, Int.cast_ofNat_Int, Bool.not_not, false_eq_decide, true_eq_decide, hread0, hreadk, read_cons0, read_consk, astore_h0, astore_hk, hget0, hgetk, hset0, hsetk, hlen, hcat, Nat.add_assoc, Nat.add_zero, Nat.zero_add, List.length_append, and_true, true_and, AV.flat, Cmd.av, *, -hK] | refine WC.call (refShardP c.ten k n hk _) ?_ | with_reducible refine IfB_dec (fun h => ?_) (fun h => ?_) | with_reducible refine Guard_dec (fun h => ?_) (fun h => ?_) | with_reducible refine Guard_ndec (fun h => ?_) (fun h => ?_) | with_reducible refine Guard_not (fun h => ?_) (fun h => ?_) | with_reducible refine IfB_ndec (fun h => ?_) (fun h => ?_) | with_reducible refine IfB_not (fun h => ?_) (fun h => ?_) | with_reducible refine Guard_split (fun h => ?_) (fun h => ?_) | with_reducible refine IfB_split (fun h => ?_) (fun h => ?_))
  exact hK _ _ (.int _ _) (Keep.app _ _ _)
theorem refNames_spec (c : Cmd) (hn : c.keys.length ≤ 1000) (H : Heap) : WC Try.prog 13 [c.av] H fun r H' => r = .tup [nameE.lst (if cmdB c then nameL c c.keys else []), .int .i64 (ordE c)] ∧ H' = H := by
  refine WC_val fun K hK => ?_
  have hmay := fun J => refMay_spec c (by omega) J
  refine WC_of_body hT Try.func13 rfl (by simp [Try.f13]) (by simp [Try.f13]) (wx_sound hT _ ?_)
  simp only [Try.f13]
  cases hc : cmdB c
  all_goals
    rw [hc] at hmay
    repeat' (first | simp only [go_sem, Nat.reduceLT, Nat.reduceEqDiff, Nat.reduceAdd, Nat.reduceMul, Nat.reduceSub, Nat.reduceLeDiff, Int.reduceToNat, Int.reduceNeg, Int.reduceLT, Int.reduceLE, Int.reduceEq, reduceCtorEq, Int.natCast_zero, Int.natCast_one, Int.cast_ofNat_Int, Bool.not_not, false_eq_decide, true_eq_decide, hread0, hreadk, read_cons0, read_consk, astore_h0, astore_hk, hget0, hgetk, hset0, hsetk, hlen, hcat, Nat.add_assoc, Nat.add_zero, Nat.zero_add, List.length_append, and_true, true_and, AV.flat, Cmd.av, *, -hK, -hmay] | refine WC.call (hmay _) ?_ | with_reducible refine IfB_dec (fun h => ?_) (fun h => ?_) | with_reducible refine Guard_dec (fun h => ?_) (fun h => ?_) | with_reducible refine Guard_ndec (fun h => ?_) (fun h => ?_) | with_reducible refine Guard_not (fun h => ?_) (fun h => ?_) | with_reducible refine IfB_ndec (fun h => ?_) (fun h => ?_) | with_reducible refine IfB_not (fun h => ?_) (fun h => ?_) | with_reducible refine Guard_split (fun h => ?_) (fun h => ?_) | with_reducible refine IfB_split (fun h => ?_) (fun h => ?_))
  · refine hK _ _ ?_ (Keep.app _ _ _)
    rw [if_neg (by simp [hc]), show ordE c = 100 by simp [ordE, hc]]
    exact Thaw.tup_row ⟨.nils, .int _ _, trivial⟩
  · refine WX_loopS [1, 2, 3] (fun k fr' H' => ∃ (i : Nat) (v : AV), k = c.keys.length - i ∧ i ≤ c.keys.length ∧ fr'.get 5 = .int .i64 i ∧ fr'.get 4 = v ∧ OwnE nameE (H.length + 1) H' v (nameL c (c.keys.take i)) ∧ Keep none (H ++ [⟨c.cs, 0, .full⟩]) H') c.keys.length ⟨0, .nils, rfl, by omega, by simp only [go_sem, Nat.reduceLT, Nat.reduceEqDiff, Nat.reduceAdd, Nat.reduceMul, Nat.reduceSub, Nat.reduceLeDiff, Int.reduceToNat, Int.reduceNeg, Int.reduceLT, Int.reduceLE, Int.reduceEq, reduceCtorEq]; rfl, by simp only [go_sem, Nat.reduceLT, Nat.reduceEqDiff, Nat.reduceAdd, Nat.reduceMul, Nat.reduceSub, Nat.reduceLeDiff, Int.reduceToNat, Int.reduceNeg, Int.reduceLT, Int.reduceLE, Int.reduceEq, reduceCtorEq], OwnE.nils _ _ _, Keep.refl _ _⟩ ?_
    rintro k fr' H' A R hA hs hg hR ⟨i, v, rfl, hi, f13, f4, ho, kk⟩
    have s1 := hg 1 (by decide)
    have s2 := hg 2 (by decide)
    have s3 := hg 3 (by decide)
    simp only [Fr.get_put, Fr.get_init, List.getD_cons_zero, List.getD_cons_succ, Nat.reduceEqDiff, if_true, if_false] at s1 s2 s3
    have hb : H'[H.length]? = some ⟨c.cs, 0, .full⟩ := kk.get (by simp) (by simp)
    unfold Cmd.cs at hb
    have hv1 := ho.one
    have hlen := kk.len
    rw [List.length_append] at hlen
    refine wx_sound hT _ ?_
    repeat' (first | simp only [go_sem, Nat.reduceLT, Nat.reduceEqDiff, Nat.reduceAdd, Nat.reduceMul, Nat.reduceSub, Nat.reduceLeDiff, Int.reduceToNat, Int.reduceNeg, Int.reduceLT, Int.reduceLE, Int.reduceEq, reduceCtorEq, Int.natCast_zero, Int.natCast_one, Int.cast_ofNat_Int, Bool.not_not, false_eq_decide, true_eq_decide, hread0, hreadk, read_cons0, read_consk, astore_h0, astore_hk, hget0, hgetk, hset0, hsetk, hlen, hcat, Nat.add_assoc, Nat.add_zero, Nat.zero_add, List.length_append, and_true, true_and, AV.flat, hb, get_app hb, read_get hb, read_app hb, *, -hK] | with_reducible refine IfB_dec (fun h => ?_) (fun h => ?_) | with_reducible refine Guard_dec (fun h => ?_) (fun h => ?_) | with_reducible refine Guard_ndec (fun h => ?_) (fun h => ?_) | with_reducible refine Guard_not (fun h => ?_) (fun h => ?_) | with_reducible refine IfB_ndec (fun h => ?_) (fun h => ?_) | with_reducible refine IfB_not (fun h => ?_) (fun h => ?_) | with_reducible refine Guard_split (fun h => ?_) (fun h => ?_) | with_reducible refine IfB_split (fun h => ?_) (fun h => ?_))
    case refine_1 =>
      have hlt : i < c.keys.length := by omega
      have e1 := at_enc (E := Enc.str) (k := .i64) se22 hlt rfl
      have e3 := inc_id hlt (show c.keys.length ≤ 140737488355328 by omega)
      refine WX_rows hT hmix [(0, none), (1, none), (2, none), (3, none), (4, none), (5, none), (6, none), (7, none), (8, none), (9, none), (10, some [true, true, true, true, true, true, true, true, true, true]), (11, none)] (by kernel_rfl) ?_
      repeat' (first | simp only [go_sem, Nat.reduceLT, Nat.reduceEqDiff, Nat.reduceAdd, Nat.reduceMul, Nat.reduceSub, Nat.reduceLeDiff, Int.reduceToNat, Int.reduceNeg, Int.reduceLT, Int.reduceLE, Int.reduceEq, reduceCtorEq, Int.natCast_zero, Int.natCast_one, Int.cast_ofNat_Int, Bool.not_not, false_eq_decide, true_eq_decide, hread0, hreadk, read_cons0, read_consk, astore_h0, astore_hk, hget0, hgetk, hset0, hsetk, hlen, hcat, Nat.add_assoc, Nat.add_zero, Nat.zero_add, List.length_append, and_true, true_and, AV.flat, str_cells, hb, get_app hb, read_get hb, read_app hb, hv1, one_solid hv1, one_cells hv1, *, -hK] | with_reducible refine IfB_dec (fun h => ?_) (fun h => ?_) | with_reducible refine Guard_dec (fun h => ?_) (fun h => ?_) | with_reducible refine Guard_ndec (fun h => ?_) (fun h => ?_) | with_reducible refine Guard_not (fun h => ?_) (fun h => ?_) | with_reducible refine IfB_ndec (fun h => ?_) (fun h => ?_) | with_reducible refine IfB_not (fun h => ?_) (fun h => ?_) | with_reducible refine Guard_split (fun h => ?_) (fun h => ?_) | with_reducible refine IfB_split (fun h => ?_) (fun h => ?_))
      refine append1_enc (E := nameE) (x := (c.ten, c.keys[i])) ho rfl se38 az50 td50 tk38 rfl rfl (by decide) (by simp only [nameL, List.length_map, List.length_take]; show (min i c.keys.length + 1) * 50 ≤ _; omega) (by simpa using hlen) ?_
      intro v2 H2 o2 k2 hn2
      have hv2 := o2.one
      repeat' (first | simp only [go_sem, Nat.reduceLT, Nat.reduceEqDiff, Nat.reduceAdd, Nat.reduceMul, Nat.reduceSub, Nat.reduceLeDiff, Int.reduceToNat, Int.reduceNeg, Int.reduceLT, Int.reduceLE, Int.reduceEq, reduceCtorEq, Int.natCast_zero, Int.natCast_one, Int.cast_ofNat_Int, Bool.not_not, false_eq_decide, true_eq_decide, hread0, hreadk, read_cons0, read_consk, astore_h0, astore_hk, hget0, hgetk, hset0, hsetk, hlen, hcat, Nat.add_assoc, Nat.add_zero, Nat.zero_add, List.length_append, and_true, true_and, AV.flat, hv2, one_solid hv2, one_cells hv2, hv1, one_solid hv1, one_cells hv1, *, -hK] | with_reducible refine IfB_dec (fun h => ?_) (fun h => ?_) | with_reducible refine Guard_dec (fun h => ?_) (fun h => ?_) | with_reducible refine Guard_ndec (fun h => ?_) (fun h => ?_) | with_reducible refine Guard_not (fun h => ?_) (fun h => ?_) | with_reducible refine IfB_ndec (fun h => ?_) (fun h => ?_) | with_reducible refine IfB_not (fun h => ?_) (fun h => ?_) | with_reducible refine Guard_split (fun h => ?_) (fun h => ?_) | with_reducible refine IfB_split (fun h => ?_) (fun h => ?_))
      refine hR _ _ (by (repeat (first | exact hs | refine hA _ _ _ (by decide) ?_))) (c.keys.length - (i + 1)) (by omega) ⟨i + 1, v2, rfl, by omega, by simp only [go_sem, Nat.reduceLT, Nat.reduceEqDiff, Nat.reduceAdd, Nat.reduceMul, Nat.reduceSub, Nat.reduceLeDiff, Int.reduceToNat, Int.reduceNeg, Int.reduceLT, Int.reduceLE, Int.reduceEq, reduceCtorEq], by simp only [go_sem, Nat.reduceLT, Nat.reduceEqDiff, Nat.reduceAdd, Nat.reduceMul, Nat.reduceSub, Nat.reduceLeDiff, Int.reduceToNat, Int.reduceNeg, Int.reduceLT, Int.reduceLE, Int.reduceEq, reduceCtorEq], by rw [nameL_step hlt]; exact o2, kk.via k2 (fun b hb => by have := ho.ge hb; simp; omega)⟩
    case refine_2 =>
      repeat' (first | simp only [go_sem, Nat.reduceLT, Nat.reduceEqDiff, Nat.reduceAdd, Nat.reduceMul, Nat.reduceSub, Nat.reduceLeDiff, Int.reduceToNat, Int.reduceNeg, Int.reduceLT, Int.reduceLE, Int.reduceEq, reduceCtorEq, Int.natCast_zero, Int.natCast_one, Int.cast_ofNat_Int, Bool.not_not, false_eq_decide, true_eq_decide, hread0, hreadk, read_cons0, read_consk, astore_h0, astore_hk, hget0, hgetk, hset0, hsetk, hlen, hcat, Nat.add_assoc, Nat.add_zero, Nat.zero_add, List.length_append, and_true, true_and, AV.flat, hv1, one_solid hv1, one_cells hv1, *, -hK] | with_reducible refine IfB_dec (fun h => ?_) (fun h => ?_) | with_reducible refine Guard_dec (fun h => ?_) (fun h => ?_) | with_reducible refine Guard_ndec (fun h => ?_) (fun h => ?_) | with_reducible refine Guard_not (fun h => ?_) (fun h => ?_) | with_reducible refine IfB_ndec (fun h => ?_) (fun h => ?_) | with_reducible refine IfB_not (fun h => ?_) (fun h => ?_) | with_reducible refine Guard_split (fun h => ?_) (fun h => ?_) | with_reducible refine IfB_split (fun h => ?_) (fun h => ?_))
      have hin : i = c.keys.length := by omega
      rw [hin, List.take_length] at ho
      refine hK _ _ ?_ ((Keep.app none H _).trans kk)
      rw [if_pos (by simp [hc]), show ordE c = 0 by simp [ordE, hc]]
      have ho' : OwnE nameE H.length H' v (nameL c c.keys) := Own.mono ho (by omega)
      exact Thaw.tup_row ⟨ho'.thaw (by decide), .int _ _, trivial⟩
theorem refShards_spec (c : Cmd) (n : Int) (hn : c.keys.length ≤ 1000) (hks : ∀ k ∈ c.keys, k.length ≤ 100000) (H : Heap) : WC Try.prog 14 [c.av, .int .i64 n] H fun r H' => r = .tup [(Enc.int .i64).lst (shL c n), .int .i64 (shE c n)] ∧ H' = H := by
  refine WC_val fun K hK => ?_
  have hmay := fun J => refMay_spec c (by omega) J
  have hbad : shE c n ≠ 0 → shL c n = [] := fun h => if_neg h
  have h1 : shE c n = 0 → shL c n = needL c n n.toNat := fun h => if_pos h
  have h2 : shE c n = if cmdB c = false then 100 else if n < 1 ∨ n > 4 then 2 else 0 := rfl
  refine WC_of_body hT Try.func14 rfl (by simp [Try.f14]) (by simp [Try.f14]) (wx_sound hT _ ?_)
  simp only [Try.f14]
  cases hc : cmdB c
  all_goals
    rw [hc] at hmay h2
  · repeat' (first | simp only [go_sem, Nat.reduceLT, Nat.reduceEqDiff, Nat.reduceAdd, Nat.reduceMul, Nat.reduceSub, Nat.reduceLeDiff, Int.reduceToNat, Int.reduceNeg, Int.reduceLT, Int.reduceLE, Int.reduceEq, reduceCtorEq, Int.natCast_zero, Int.natCast_one, Int.cast_ofNat_Int, Bool.not_not, false_eq_decide, true_eq_decide, hread0, hreadk, read_cons0, read_consk, astore_h0, astore_hk, hget0, hgetk, hset0, hsetk, hlen, hcat, Nat.add_assoc, Nat.add_zero, Nat.zero_add, List.length_append, and_true, true_and, AV.flat, Cmd.av, *, -hK, -hmay, -hbad, -h1, -h2] | refine WC.call (hmay _) ?_ | with_reducible refine IfB_dec (fun h => ?_) (fun h => ?_) | with_reducible refine Guard_dec (fun h => ?_) (fun h => ?_) | with_reducible refine Guard_ndec (fun h => ?_) (fun h => ?_) | with_reducible refine Guard_not (fun h => ?_) (fun h => ?_) | with_reducible refine IfB_ndec (fun h => ?_) (fun h => ?_) | with_reducible refine IfB_not (fun h => ?_) (fun h => ?_) | with_reducible refine Guard_split (fun h => ?_) (fun h => ?_) | with_reducible refine IfB_split (fun h => ?_) (fun h => ?_))
    refine hK _ _ ?_ (Keep.app _ _ _)
    rw [if_pos rfl] at h2
    rw [hbad (by rw [h2]; decide), h2]
    exact Thaw.tup_row ⟨.nils, .int _ _, trivial⟩
  · rw [if_neg (by simp)] at h2
    by_cases hr : n < 1 ∨ n > 4
    · rw [if_pos hr] at h2
      repeat' (first | simp only [go_sem, Nat.reduceLT, Nat.reduceEqDiff, Nat.reduceAdd, Nat.reduceMul, Nat.reduceSub, Nat.reduceLeDiff, Int.reduceToNat, Int.reduceNeg, Int.reduceLT, Int.reduceLE, Int.reduceEq, reduceCtorEq, Int.natCast_zero, Int.natCast_one, Int.cast_ofNat_Int, Bool.not_not, false_eq_decide, true_eq_decide, hread0, hreadk, read_cons0, read_consk, astore_h0, astore_hk, hget0, hgetk, hset0, hsetk, hlen, hcat, Nat.add_assoc, Nat.add_zero, Nat.zero_add, List.length_append, and_true, true_and, AV.flat, Cmd.av, *, -hK, -hmay, -hbad, -h1, -h2, -hr] | refine WC.call (hmay _) ?_ | with_reducible refine IfB_dec (fun h => ?_) (fun h => ?_) | with_reducible refine Guard_dec (fun h => ?_) (fun h => ?_) | with_reducible refine Guard_ndec (fun h => ?_) (fun h => ?_) | with_reducible refine Guard_not (fun h => ?_) (fun h => ?_) | with_reducible refine IfB_ndec (fun h => ?_) (fun h => ?_) | with_reducible refine IfB_not (fun h => ?_) (fun h => ?_) | with_reducible refine Guard_split (fun h => ?_) (fun h => ?_) | with_reducible refine IfB_split (fun h => ?_) (fun h => ?_))
      all_goals first
        | (exfalso; omega)
        | (refine hK _ _ ?_ (Keep.app _ _ _)
           rw [hbad (by rw [h2]; decide), h2]
           exact Thaw.tup_row ⟨.nils, .int _ _, trivial⟩)
    · rw [if_neg hr] at h2
      have h3 := h1 h2
      rw [h3, h2] at hK
      clear h1 h2 h3 hbad
      obtain ⟨N, rfl⟩ : ∃ N : Nat, n = (N : Int) := ⟨n.toNat, by omega⟩
      rw [Int.toNat_natCast] at hK
      have r1 : ¬ (N : Int) < 1 := by omega
      have r2 : ¬ 4 < (N : Int) := by omega
      repeat' (first | simp only [go_sem, Nat.reduceLT, Nat.reduceEqDiff, Nat.reduceAdd, Nat.reduceMul, Nat.reduceSub, Nat.reduceLeDiff, Int.reduceToNat, Int.reduceNeg, Int.reduceLT, Int.reduceLE, Int.reduceEq, reduceCtorEq, Int.natCast_zero, Int.natCast_one, Int.cast_ofNat_Int, Bool.not_not, false_eq_decide, true_eq_decide, hread0, hreadk, read_cons0, read_consk, astore_h0, astore_hk, hget0, hgetk, hset0, hsetk, hlen, hcat, Nat.add_assoc, Nat.add_zero, Nat.zero_add, List.length_append, and_true, true_and, AV.flat, Cmd.av, *, -hK, -hmay, -hr] | refine WC.call (hmay _) ?_ | refine WC.call (refNeeds_spec c N (by omega) hn hks _) ?_ | with_reducible refine IfB_dec (fun h => ?_) (fun h => ?_) | with_reducible refine Guard_dec (fun h => ?_) (fun h => ?_) | with_reducible refine Guard_ndec (fun h => ?_) (fun h => ?_) | with_reducible refine Guard_not (fun h => ?_) (fun h => ?_) | with_reducible refine IfB_ndec (fun h => ?_) (fun h => ?_) | with_reducible refine IfB_not (fun h => ?_) (fun h => ?_) | with_reducible refine Guard_split (fun h => ?_) (fun h => ?_) | with_reducible refine IfB_split (fun h => ?_) (fun h => ?_))
      exact hK _ _ (Thaw.tup_row ⟨.lst _ _, .int _ _, trivial⟩) (Keep.app _ _ _)
theorem refPart_spec (c : Cmd) (sh n : Int) (hn : c.keys.length ≤ 1000) (hks : ∀ k ∈ c.keys, k.length ≤ 100000) (H : Heap) : WC Try.prog 15 [c.av, .int .i64 sh, .int .i64 n] H fun r H' => r = .tup [(partL c sh n).av, .int .i64 (partE c sh n)] ∧ H' = H := by
  refine WC_val fun K hK => ?_
  have hshL := shL_len c n
  have hbad : partE c sh n ≠ 0 → ∀ J, Thaw H.length J (.agg [.int .u8 0, .int .i64 0, .nils, .str [], .int .u32 0, .int .i64 0, .int .u64 0, .int .u64 0]) (partL c sh n).av := fun h J => by
    rw [partL, if_neg h]; exact Thaw.agg_row ⟨.int _ _, .int _ _, .nils, .str _, .int _ _, .int _ _, .int _ _, .int _ _, trivial⟩
  have hpE : partE c sh n = if shE c n ≠ 0 then shE c n else if sh ∈ shL c n then 0 else 2 := rfl
  have hpL : partE c sh n = 0 → partL c sh n = c.with (pieceK c sh n c.keys) := fun h => if_pos h
  have hs := fun J => refShards_spec c n hn hks J
  have hpi := fun J => refPiece_spec c sh n hn hks J
  generalize shE c n = e at *
  generalize shL c n = sl at *
  generalize partL c sh n = pl at *
  unfold Cmd.av at hs hpi
  refine WC_of_body hT Try.func15 rfl (by simp [Try.f15]) (by simp [Try.f15]) (wx_sound hT _ ?_)
  simp only [Try.f15]
  repeat' (first | simp only [go_sem, Nat.reduceLT, Nat.reduceEqDiff, Nat.reduceAdd, Nat.reduceMul, Nat.reduceSub, Nat.reduceLeDiff, Int.reduceToNat, Int.reduceNeg, Int.reduceLT, Int.reduceLE, Int.reduceEq, reduceCtorEq, Int.natCast_zero, Int.natCast_one, Int.cast_ofNat_Int, Bool.not_not, false_eq_decide, true_eq_decide, hread0, hreadk, read_cons0, read_consk, astore_h0, astore_hk, hget0, hgetk, hset0, hsetk, hlen, hcat, Nat.add_assoc, Nat.add_zero, Nat.zero_add, List.length_append, and_true, true_and, AV.flat, Cmd.av, *, -hK, -hbad, -hpE, -hpL, -hs, -hpi] | refine WC.call (hs _) ?_ | with_reducible refine IfB_dec (fun h => ?_) (fun h => ?_) | with_reducible refine Guard_dec (fun h => ?_) (fun h => ?_) | with_reducible refine Guard_ndec (fun h => ?_) (fun h => ?_) | with_reducible refine Guard_not (fun h => ?_) (fun h => ?_) | with_reducible refine IfB_ndec (fun h => ?_) (fun h => ?_) | with_reducible refine IfB_not (fun h => ?_) (fun h => ?_) | with_reducible refine Guard_split (fun h => ?_) (fun h => ?_) | with_reducible refine IfB_split (fun h => ?_) (fun h => ?_))
  case refine_1 =>
    have h1 : partE c sh n = e := by rw [hpE, if_pos h]
    refine hK _ _ (Thaw.tup_row ⟨hbad (by rw [h1]; exact h) _, ?_, trivial⟩) (Keep.app _ _ _)
    rw [h1]; exact .int _ _
  case refine_2 =>
    have h0 : e = 0 := by assumption
    subst h0
    refine WX_loopS [1, 2, 3, 6, 8] (fun k fr' H' => ∃ i : Nat, k = sl.length - i ∧ i ≤ sl.length ∧ fr'.get 10 = .int .i64 i ∧ H' = H ++ [⟨c.cs, 0, .full⟩, ⟨cmd0.cs2, 0, .full⟩] ∧ ∀ q (hq : q < i) (hx : q < sl.length), ¬ sl[q] = sh) sl.length ⟨0, rfl, by omega, by simp only [go_sem, Nat.reduceLT, Nat.reduceEqDiff, Nat.reduceAdd, Nat.reduceMul, Nat.reduceSub, Nat.reduceLeDiff, Int.reduceToNat, Int.reduceNeg, Int.reduceLT, Int.reduceLE, Int.reduceEq, reduceCtorEq]; rfl, rfl, fun q hq => by omega⟩ ?_
    rintro k fr' H' A R hA hs2 hg hR ⟨i, rfl, hi, f10, rfl, hno⟩
    have hs := hs2
    have s1 := hg 1 (by decide)
    have s2 := hg 2 (by decide)
    have s3 := hg 3 (by decide)
    have s6 := hg 6 (by decide)
    have s8 := hg 8 (by decide)
    simp only [Fr.get_put, Fr.get_init, List.getD_cons_zero, List.getD_cons_succ, Nat.reduceEqDiff, if_true, if_false] at s1 s2 s3 s6 s8
    unfold Cmd.cs Cmd.cs2 cmd0 at hR ⊢
    simp only at hR ⊢
    refine wx_sound hT _ ?_
    repeat' (first | simp only [go_sem, Nat.reduceLT, Nat.reduceEqDiff, Nat.reduceAdd, Nat.reduceMul, Nat.reduceSub, Nat.reduceLeDiff, Int.reduceToNat, Int.reduceNeg, Int.reduceLT, Int.reduceLE, Int.reduceEq, reduceCtorEq, Int.natCast_zero, Int.natCast_one, Int.cast_ofNat_Int, Bool.not_not, false_eq_decide, true_eq_decide, hread0, hreadk, read_cons0, read_consk, astore_h0, astore_hk, hget0, hgetk, hset0, hsetk, hlen, hcat, Nat.add_assoc, Nat.add_zero, Nat.zero_add, List.length_append, and_true, true_and, AV.flat, *, -hK, -hbad, -hpE, -hpL, -hpi] | with_reducible refine IfB_dec (fun h => ?_) (fun h => ?_) | with_reducible refine Guard_dec (fun h => ?_) (fun h => ?_) | with_reducible refine Guard_ndec (fun h => ?_) (fun h => ?_) | with_reducible refine Guard_not (fun h => ?_) (fun h => ?_) | with_reducible refine IfB_ndec (fun h => ?_) (fun h => ?_) | with_reducible refine IfB_not (fun h => ?_) (fun h => ?_) | with_reducible refine Guard_split (fun h => ?_) (fun h => ?_) | with_reducible refine IfB_split (fun h => ?_) (fun h => ?_))
    case refine_1 =>
      have hlt : i < sl.length := by omega
      have e1 := at_enc (E := Enc.int .i64) (k := .i64) se28 hlt rfl
      have e3 := inc_id hlt (show sl.length ≤ 140737488355328 by omega)
      by_cases hq : sl[i] = sh
      · have hin : sh ∈ sl := by rw [← hq]; exact List.getElem_mem hlt
        have h1 : partE c sh n = 0 := by rw [hpE, if_neg (by simp), if_pos hin]
        have h2 := hpL h1
        subst h2
        rw [h1] at hK
        clear hbad hpE hpL h1
        repeat' (first | simp only [go_sem, Nat.reduceLT, Nat.reduceEqDiff, Nat.reduceAdd, Nat.reduceMul, Nat.reduceSub, Nat.reduceLeDiff, Int.reduceToNat, Int.reduceNeg, Int.reduceLT, Int.reduceLE, Int.reduceEq, reduceCtorEq, Int.natCast_zero, Int.natCast_one, Int.cast_ofNat_Int, Bool.not_not, false_eq_decide, true_eq_decide, hread0, hreadk, read_cons0, read_consk, astore_h0, astore_hk, hget0, hgetk, hset0, hsetk, hlen, hcat, Nat.add_assoc, Nat.add_zero, Nat.zero_add, List.length_append, and_true, true_and, AV.flat, int_cells, Cmd.av, Cmd.with, *, -hK, -hpi] | refine WC.call (hpi _) ?_ | with_reducible refine IfB_dec (fun h => ?_) (fun h => ?_) | with_reducible refine Guard_dec (fun h => ?_) (fun h => ?_) | with_reducible refine Guard_ndec (fun h => ?_) (fun h => ?_) | with_reducible refine Guard_not (fun h => ?_) (fun h => ?_) | with_reducible refine IfB_ndec (fun h => ?_) (fun h => ?_) | with_reducible refine IfB_not (fun h => ?_) (fun h => ?_) | with_reducible refine Guard_split (fun h => ?_) (fun h => ?_) | with_reducible refine IfB_split (fun h => ?_) (fun h => ?_))
        refine hK _ _ (Thaw.tup_row ⟨?_, .int _ _, trivial⟩) (Keep.app _ _ _)
        exact Thaw.agg_row ⟨.int _ _, .int _ _, .lst _ _, .str _, .int _ _, .int _ _, .int _ _, .int _ _, trivial⟩
      · repeat' (first | simp only [go_sem, Nat.reduceLT, Nat.reduceEqDiff, Nat.reduceAdd, Nat.reduceMul, Nat.reduceSub, Nat.reduceLeDiff, Int.reduceToNat, Int.reduceNeg, Int.reduceLT, Int.reduceLE, Int.reduceEq, reduceCtorEq, Int.natCast_zero, Int.natCast_one, Int.cast_ofNat_Int, Bool.not_not, false_eq_decide, true_eq_decide, hread0, hreadk, read_cons0, read_consk, astore_h0, astore_hk, hget0, hgetk, hset0, hsetk, hlen, hcat, Nat.add_assoc, Nat.add_zero, Nat.zero_add, List.length_append, and_true, true_and, AV.flat, int_cells, *, -hK, -hbad, -hpE, -hpL, -hpi] | with_reducible refine IfB_dec (fun h => ?_) (fun h => ?_) | with_reducible refine Guard_dec (fun h => ?_) (fun h => ?_) | with_reducible refine Guard_ndec (fun h => ?_) (fun h => ?_) | with_reducible refine Guard_not (fun h => ?_) (fun h => ?_) | with_reducible refine IfB_ndec (fun h => ?_) (fun h => ?_) | with_reducible refine IfB_not (fun h => ?_) (fun h => ?_) | with_reducible refine Guard_split (fun h => ?_) (fun h => ?_) | with_reducible refine IfB_split (fun h => ?_) (fun h => ?_))
        refine hR _ _ (by (repeat (first | exact hs | refine hA _ _ _ (by decide) ?_))) (sl.length - (i + 1)) (by omega) ⟨i + 1, rfl, by omega, by simp only [go_sem, Nat.reduceLT, Nat.reduceEqDiff, Nat.reduceAdd, Nat.reduceMul, Nat.reduceSub, Nat.reduceLeDiff, Int.reduceToNat, Int.reduceNeg, Int.reduceLT, Int.reduceLE, Int.reduceEq, reduceCtorEq], rfl, fun q hq hx => ?_⟩
        exact (Classical.em (q = i)).elim (fun e => by subst e; assumption) (fun e => hno q (by omega) hx)
    case refine_2 =>
      have hin : i = sl.length := by omega
      have h1 : partE c sh n = 2 := by
        rw [hpE, if_neg (by simp), if_neg]
        intro hm
        obtain ⟨q, hq, rfl⟩ := List.getElem_of_mem hm
        exact hno q (by omega) hq rfl
      repeat' (first | simp only [go_sem, Nat.reduceLT, Nat.reduceEqDiff, Nat.reduceAdd, Nat.reduceMul, Nat.reduceSub, Nat.reduceLeDiff, Int.reduceToNat, Int.reduceNeg, Int.reduceLT, Int.reduceLE, Int.reduceEq, reduceCtorEq, Int.natCast_zero, Int.natCast_one, Int.cast_ofNat_Int, Bool.not_not, false_eq_decide, true_eq_decide, hread0, hreadk, read_cons0, read_consk, astore_h0, astore_hk, hget0, hgetk, hset0, hsetk, hlen, hcat, Nat.add_assoc, Nat.add_zero, Nat.zero_add, List.length_append, and_true, true_and, AV.flat, *, -hK, -hbad, -hpE, -hpL, -hpi] | with_reducible refine IfB_dec (fun h => ?_) (fun h => ?_) | with_reducible refine Guard_dec (fun h => ?_) (fun h => ?_) | with_reducible refine Guard_ndec (fun h => ?_) (fun h => ?_) | with_reducible refine Guard_not (fun h => ?_) (fun h => ?_) | with_reducible refine IfB_ndec (fun h => ?_) (fun h => ?_) | with_reducible refine IfB_not (fun h => ?_) (fun h => ?_) | with_reducible refine Guard_split (fun h => ?_) (fun h => ?_) | with_reducible refine IfB_split (fun h => ?_) (fun h => ?_))
      refine hK _ _ (Thaw.tup_row ⟨hbad (by rw [h1]; decide) _, ?_, trivial⟩) (Keep.app _ _ _)
      rw [h1]; exact .int _ _
end Go.Proofs.Ytkkgkljikmhldaa
