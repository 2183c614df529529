import Derived.Test.YtkmkhiipiflelaaTktS
set_option linter.unusedSimpArgs false
set_option linter.unusedVariables false
set_option maxRecDepth 100000
set_option maxHeartbeats 2000000
namespace Go.Proofs.Ytkmkhiipiflelaa
open Go Go.Proofs Go.Proofs.PI
theorem rangeI_step (i : Nat) : rangeI (i + 1) = rangeI i ++ [(i : Int)] := by unfold rangeI; rw [List.range_succ, List.map_append]; rfl
theorem rangeI_len (n : Nat) : (rangeI n).length = n := by simp [rangeI]
theorem row_int0 (n : Nat) : (Enc.int .i64).row (List.replicate n 0) = (List.replicate n [AV.int .i64 0]).flatten := by
  induction n with
  | zero => rfl
  | succ n ih => rw [List.replicate_succ, Enc.row_cons, ih, List.replicate_succ, List.flatten_cons]; rfl
theorem tshards_spec (t : Tkt) (n : Nat) (h4 : n ≤ 4) (hn : t.cmd.keys.length ≤ 1000) (hks : ∀ k ∈ t.cmd.keys, k.length ≤ 100000) (H : Heap) : WC Try.prog 32 [t.av, .int .i64 n] H fun r H' => r = (Enc.int .i64).lst (shardsL t n) ∧ H' = H := by
  refine WC_val fun K hK => ?_
  by_cases k1 : t.kind = 1
  · have sh := fun J => shards_own t.cmd n hn hks J
    rw [show shardsL t n = shL t.cmd n by unfold shardsL; rw [if_pos k1]] at hK
    unfold Tkt.av Cmd.av at *
    rw [k1]
    clear k1
    refine WC_of_body hT Try.func32 rfl (by simp [Try.f32]) (by simp [Try.f32]) (wx_sound hT _ ?_)
    simp only [Try.f32]
    repeat' (first | simp only [go_sem, Nat.reduceLT, Nat.reduceEqDiff, Nat.reduceAdd, Nat.reduceMul, Nat.reduceSub, Nat.reduceLeDiff, Int.reduceToNat, Int.reduceNeg, Int.reduceLT, Int.reduceLE, Int.reduceEq, reduceCtorEq, Int.natCast_zero, Int.natCast_one, Int.cast_ofNat_Int, Bool.not_not, false_eq_decide, true_eq_decide, hread0, hreadk, read_cons0, read_consk, astore_h0, astore_hk, hget0, hgetk, hset0, hsetk, hlen, hcat, Nat.add_assoc, Nat.add_zero, Nat.zero_add, List.length_append, and_true, true_and, AV.flat, *, -hK, -sh] | with_reducible refine IfB_dec (fun h => ?_) (fun h => ?_) | with_reducible refine Guard_dec (fun h => ?_) (fun h => ?_) | with_reducible refine Guard_ndec (fun h => ?_) (fun h => ?_) | with_reducible refine Guard_not (fun h => ?_) (fun h => ?_) | with_reducible refine IfB_ndec (fun h => ?_) (fun h => ?_) | with_reducible refine IfB_not (fun h => ?_) (fun h => ?_) | with_reducible refine Guard_split (fun h => ?_) (fun h => ?_) | with_reducible refine IfB_split (fun h => ?_) (fun h => ?_))
    refine (sh _).mono ?_
    rintro r H1 ⟨v, rfl, o, k⟩
    have hv := o.one
    repeat' (first | simp only [go_sem, Nat.reduceLT, Nat.reduceEqDiff, Nat.reduceAdd, Nat.reduceMul, Nat.reduceSub, Nat.reduceLeDiff, Int.reduceToNat, Int.reduceNeg, Int.reduceLT, Int.reduceLE, Int.reduceEq, reduceCtorEq, Int.natCast_zero, Int.natCast_one, Int.cast_ofNat_Int, Bool.not_not, false_eq_decide, true_eq_decide, hread0, hreadk, read_cons0, read_consk, astore_h0, astore_hk, hget0, hgetk, hset0, hsetk, hlen, hcat, Nat.add_assoc, Nat.add_zero, Nat.zero_add, List.length_append, and_true, true_and, AV.flat, hv, one_solid hv, one_cells hv, *, -hK, -sh, -o, -k] | with_reducible refine IfB_dec (fun h => ?_) (fun h => ?_) | with_reducible refine Guard_dec (fun h => ?_) (fun h => ?_) | with_reducible refine Guard_ndec (fun h => ?_) (fun h => ?_) | with_reducible refine Guard_not (fun h => ?_) (fun h => ?_) | with_reducible refine IfB_ndec (fun h => ?_) (fun h => ?_) | with_reducible refine IfB_not (fun h => ?_) (fun h => ?_) | with_reducible refine Guard_split (fun h => ?_) (fun h => ?_) | with_reducible refine IfB_split (fun h => ?_) (fun h => ?_))
    exact hK _ _ (OwnE.thaw (E := Enc.int .i64) (Own.mono o (m' := H.length) (by simp)) (by decide)) ((Keep.app none H _).trans k)
  rw [show shardsL t n = rangeI n by unfold shardsL; rw [if_neg k1]] at hK
  unfold Tkt.av
  have hc : (0 : Int) ≤ n ∧ (n : Int) ≤ n ∧ (n : Int) ≤ 140737488355328 ∧ 8 * (n : Int) ≤ 140737488355328 := by omega
  have hj : (n : Int).toNat = n := Int.toNat_natCast n
  refine WC_of_body hT Try.func32 rfl (by simp [Try.f32]) (by simp [Try.f32]) (wx_sound hT _ ?_)
  simp only [Try.f32]
  repeat' (first | simp only [go_sem, Nat.reduceLT, Nat.reduceEqDiff, Nat.reduceAdd, Nat.reduceMul, Nat.reduceSub, Nat.reduceLeDiff, Int.reduceToNat, Int.reduceNeg, Int.reduceLT, Int.reduceLE, Int.reduceEq, reduceCtorEq, Int.natCast_zero, Int.natCast_one, Int.cast_ofNat_Int, Bool.not_not, false_eq_decide, true_eq_decide, hread0, hreadk, read_cons0, read_consk, astore_h0, astore_hk, hget0, hgetk, hset0, hsetk, hlen, hcat, Nat.add_assoc, Nat.add_zero, Nat.zero_add, List.length_append, and_true, true_and, AV.flat, *, -hK, -hc, -hj] | with_reducible refine IfB_dec (fun h => ?_) (fun h => ?_) | with_reducible refine Guard_dec (fun h => ?_) (fun h => ?_) | with_reducible refine Guard_ndec (fun h => ?_) (fun h => ?_) | with_reducible refine Guard_not (fun h => ?_) (fun h => ?_) | with_reducible refine IfB_ndec (fun h => ?_) (fun h => ?_) | with_reducible refine IfB_not (fun h => ?_) (fun h => ?_) | with_reducible refine Guard_split (fun h => ?_) (fun h => ?_) | with_reducible refine IfB_split (fun h => ?_) (fun h => ?_))
  rw [if_pos hc]
  simp only [hj]
  repeat' (first | simp only [go_sem, Nat.reduceLT, Nat.reduceEqDiff, Nat.reduceAdd, Nat.reduceMul, Nat.reduceSub, Nat.reduceLeDiff, Int.reduceToNat, Int.reduceNeg, Int.reduceLT, Int.reduceLE, Int.reduceEq, reduceCtorEq, Int.natCast_zero, Int.natCast_one, Int.cast_ofNat_Int, Bool.not_not, false_eq_decide, true_eq_decide, hread0, hreadk, read_cons0, read_consk, astore_h0, astore_hk, hget0, hgetk, hset0, hsetk, hlen, hcat, Nat.add_assoc, Nat.add_zero, Nat.zero_add, List.length_append, and_true, true_and, AV.flat, *, -hK, -hc, -hj] | with_reducible refine IfB_dec (fun h => ?_) (fun h => ?_) | with_reducible refine Guard_dec (fun h => ?_) (fun h => ?_) | with_reducible refine Guard_ndec (fun h => ?_) (fun h => ?_) | with_reducible refine Guard_not (fun h => ?_) (fun h => ?_) | with_reducible refine IfB_ndec (fun h => ?_) (fun h => ?_) | with_reducible refine IfB_not (fun h => ?_) (fun h => ?_) | with_reducible refine Guard_split (fun h => ?_) (fun h => ?_) | with_reducible refine IfB_split (fun h => ?_) (fun h => ?_))
  have o0 : OwnE (Enc.int .i64) H.length (H ++ [(⟨[.int .i64 t.num, .int .u8 t.kind, .int .u8 t.cmd.kind, .int .i64 t.cmd.ten, Enc.str.lst t.cmd.keys, .str t.cmd.val, .int .u32 t.cmd.flags, .int .i64 t.cmd.for_, .int .u64 t.cmd.uniq, .int .u64 t.cmd.by_, .int .i64 t.ten, .int .i64 t.to], 0, .full⟩ : Blk), (⟨(List.replicate n [AV.int .i64 0]).flatten, 1, .full⟩ : Blk)]) (.sl (H.length + 1) 0 n none) (List.replicate n 0) :=
    Own.whole (st := .full) (by omega) (by rw [hgetk, row_int0]; rfl) rfl (by rw [Enc.row_length, List.length_replicate])
  refine WX_loopS [7, 23] (fun k fr' J => ∃ (i : Nat) (ys : List Int), k = n - i ∧ i ≤ n ∧ fr'.get 24 = .int .i64 i ∧ ys.length = n ∧ OwnE (Enc.int .i64) H.length J (.sl (H.length + 1) 0 n none) ys ∧ ys.take i = rangeI i ∧ Keep none H J) n ⟨0, _, rfl, by omega, by simp only [go_sem, Nat.reduceLT, Nat.reduceEqDiff, Nat.reduceAdd, Nat.reduceMul, Nat.reduceSub, Nat.reduceLeDiff, Int.reduceToNat, Int.reduceNeg, Int.reduceLT, Int.reduceLE, Int.reduceEq, reduceCtorEq]; rfl, List.length_replicate .., o0, by simp [rangeI], Keep.app _ _ _⟩ ?_
  clear o0
  rintro k fr' J A R hA hs hg hR ⟨i, ys, rfl, hi, f24, hyl, ho, hyt, kJ⟩
  have s7 := hg 7 (by decide)
  have s23 := hg 23 (by decide)
  simp only [Fr.get_put, Fr.get_init, List.getD_cons_zero, List.getD_cons_succ, Nat.reduceEqDiff, if_true, if_false] at s7 s23
  refine wx_sound hT _ ?_
  by_cases hlt : i < n
  rotate_left
  · have i1 : ¬ (i : Int) < n := by omega
    have hie : i = n := by omega
    have hyr : ys = rangeI n := by rw [← hie, ← hyt, List.take_of_length_le (by omega)]
    rw [hyr] at ho
    repeat' (first | simp only [go_sem, Nat.reduceLT, Nat.reduceEqDiff, Nat.reduceAdd, Nat.reduceMul, Nat.reduceSub, Nat.reduceLeDiff, Int.reduceToNat, Int.reduceNeg, Int.reduceLT, Int.reduceLE, Int.reduceEq, reduceCtorEq, Int.natCast_zero, Int.natCast_one, Int.cast_ofNat_Int, Bool.not_not, false_eq_decide, true_eq_decide, hread0, hreadk, read_cons0, read_consk, astore_h0, astore_hk, hget0, hgetk, hset0, hsetk, hlen, hcat, Nat.add_assoc, Nat.add_zero, Nat.zero_add, List.length_append, and_true, true_and, AV.flat, *, -hK, -hc, -hj, -ho, -hyt, -kJ, -hyl, -hie, -hyr] | with_reducible refine IfB_dec (fun h => ?_) (fun h => ?_) | with_reducible refine Guard_dec (fun h => ?_) (fun h => ?_) | with_reducible refine Guard_ndec (fun h => ?_) (fun h => ?_) | with_reducible refine Guard_not (fun h => ?_) (fun h => ?_) | with_reducible refine IfB_ndec (fun h => ?_) (fun h => ?_) | with_reducible refine IfB_not (fun h => ?_) (fun h => ?_) | with_reducible refine Guard_split (fun h => ?_) (fun h => ?_) | with_reducible refine IfB_split (fun h => ?_) (fun h => ?_))
    exact hK _ _ (OwnE.thaw (E := Enc.int .i64) ho (by decide)) kJ
  have i1 : (i : Int) < n := by omega
  have e3 := inc_id hlt (by omega)
  obtain ⟨b, o, H2, q1, q2, q3, q4, q5⟩ := ho.set (by decide) se27 (i := i) (by omega) (k := .i64) rfl (te := 3) (by simp only [asize, td3, Option.map_some]; rfl) (x := (i : Int)) (a := .int .i64 i) rfl rfl
  have hst : (ys.set i (i : Int)).take (i + 1) = rangeI (i + 1) := by
    rw [List.take_succ_eq_append_getElem (by rw [List.length_set]; omega), List.getElem_set_self, List.take_set_of_le (Nat.le_refl _), hyt, rangeI_step]
  have hge : ∀ b, (AV.sl (H.length + 1) 0 n none).blk = some b → H.length ≤ b := fun b hb => ho.ge hb
  repeat' (first | simp only [go_sem, Nat.reduceLT, Nat.reduceEqDiff, Nat.reduceAdd, Nat.reduceMul, Nat.reduceSub, Nat.reduceLeDiff, Int.reduceToNat, Int.reduceNeg, Int.reduceLT, Int.reduceLE, Int.reduceEq, reduceCtorEq, Int.natCast_zero, Int.natCast_one, Int.cast_ofNat_Int, Bool.not_not, false_eq_decide, true_eq_decide, hread0, hreadk, read_cons0, read_consk, astore_h0, astore_hk, hget0, hgetk, hset0, hsetk, hlen, hcat, Nat.add_assoc, Nat.add_zero, Nat.zero_add, List.length_append, and_true, true_and, AV.flat, *, -hK, -hc, -hj, -ho, -hyt, -kJ, -hyl, -q3, -q4, -q5, -hst, -hge] | with_reducible refine IfB_dec (fun h => ?_) (fun h => ?_) | with_reducible refine Guard_dec (fun h => ?_) (fun h => ?_) | with_reducible refine Guard_ndec (fun h => ?_) (fun h => ?_) | with_reducible refine Guard_not (fun h => ?_) (fun h => ?_) | with_reducible refine IfB_ndec (fun h => ?_) (fun h => ?_) | with_reducible refine IfB_not (fun h => ?_) (fun h => ?_) | with_reducible refine Guard_split (fun h => ?_) (fun h => ?_) | with_reducible refine IfB_split (fun h => ?_) (fun h => ?_))
  exact hR _ _ (by (repeat (first | exact hs | refine hA _ _ _ (by decide) ?_))) (n - (i + 1)) (by omega) ⟨i + 1, _, rfl, by omega, by simp only [go_sem, Nat.reduceLT, Nat.reduceEqDiff, Nat.reduceAdd, Nat.reduceMul, Nat.reduceSub, Nat.reduceLeDiff, Int.reduceToNat, Int.reduceNeg, Int.reduceLT, Int.reduceLE, Int.reduceEq, reduceCtorEq], by rw [List.length_set]; exact hyl, q3, hst, kJ.via q4 (fun b hb => hge b (by rw [q5]; exact hb))⟩
end Go.Proofs.Ytkmkhiipiflelaa
