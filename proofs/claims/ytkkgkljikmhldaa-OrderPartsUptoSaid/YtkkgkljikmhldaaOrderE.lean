import Derived.Test.YtkkgkljikmhldaaOrderC
import Derived.Test.YtkkgkljikmhldaaOrderD
set_option linter.unusedSimpArgs false
set_option linter.unusedVariables false
set_option maxRecDepth 100000
set_option maxHeartbeats 2000000
namespace Go.Proofs.Ytkkgkljikmhldaa
open Go Go.Proofs Go.Proofs.PI
theorem kGo_all (l : List (List UInt8)) : kGo [] l = (decide (∀ k ∈ l, 1 ≤ k.length ∧ k.length ≤ 32) && decide l.Nodup) := by
  rw [Bool.eq_iff_iff, kGo_iff]
  simp
theorem refKeys_spec (c : Cmd) (hn : c.keys.length ≤ 140737488355328) (H : Heap) : WC Try.prog 39 [c.av] H fun r H' => r = .bool (keysB c.kind c.keys) ∧ H' = H := by
  refine WC_val fun K hK => ?_
  refine WC_of_body hT Try.func39 rfl (by simp [Try.f39]) (by simp [Try.f39]) (wx_sound hT _ ?_)
  simp only [Try.f39]
  repeat' (first | simp only [go_sem, Nat.reduceLT, Nat.reduceEqDiff, Nat.reduceAdd, Nat.reduceMul, Nat.reduceSub, Nat.reduceLeDiff, Int.reduceToNat, Int.reduceNeg, Int.reduceLT, Int.reduceLE, Int.reduceEq, reduceCtorEq, Int.natCast_zero, Int.natCast_one, Int.cast_ofNat_Int, Bool.not_not, false_eq_decide, true_eq_decide, hread0, hreadk, read_cons0, read_consk, astore_h0, astore_hk, hget0, hgetk, hset0, hsetk, hlen, hcat, Nat.add_assoc, Nat.add_zero, Nat.zero_add, List.length_append, and_true, true_and, AV.flat, Cmd.av, *, -hK] | with_reducible refine IfB_dec (fun h => ?_) (fun h => ?_) | with_reducible refine Guard_dec (fun h => ?_) (fun h => ?_) | with_reducible refine Guard_ndec (fun h => ?_) (fun h => ?_) | with_reducible refine Guard_not (fun h => ?_) (fun h => ?_) | with_reducible refine IfB_ndec (fun h => ?_) (fun h => ?_) | with_reducible refine IfB_not (fun h => ?_) (fun h => ?_) | with_reducible refine Guard_split (fun h => ?_) (fun h => ?_) | with_reducible refine IfB_split (fun h => ?_) (fun h => ?_))
  case refine_1 =>
    refine hK _ _ (Thaw.of_eq ?_ rfl) (Keep.app _ _ _)
    congr 1
    have hk : c.kind = 11 := by assumption
    rw [keysB, Bool.eq_iff_iff, Bool.and_eq_true, decide_eq_true_eq, decide_eq_true_eq, hk, show loK 11 = 0 from rfl, show hiK 11 = 0 from rfl]
    constructor
    · intro h
      have : c.keys = [] := List.eq_nil_of_length_eq_zero (by omega)
      rw [this]; exact ⟨by simp, rfl⟩
    · rintro ⟨h1, -⟩; omega
  all_goals try (refine hK _ _ (Thaw.of_eq ?_ rfl) (Keep.app _ _ _); congr 1; symm; rw [keysB, Bool.and_eq_false_iff]; left; rw [decide_eq_false_iff_not]; unfold loK hiK; (repeat' split) <;> omega)
  all_goals
    refine WX_loopS [1, 3] (fun k fr' H' => ∃ i : Nat, k = c.keys.length - i ∧ i ≤ c.keys.length ∧ fr'.get 4 = .int .i64 i ∧ H' = H ++ [⟨[.int .u8 c.kind, .int .i64 c.ten, Enc.str.lst c.keys, .str c.val, .int .u32 c.flags, .int .i64 c.for_, .int .u64 c.uniq, .int .u64 c.by_], 0, .full⟩] ∧ ∀ q (hq : q < i) (hx : q < c.keys.length), 1 ≤ c.keys[q].length ∧ c.keys[q].length ≤ 32) c.keys.length ⟨0, rfl, by omega, by simp only [go_sem, Nat.reduceLT, Nat.reduceEqDiff, Nat.reduceAdd, Nat.reduceMul, Nat.reduceSub, Nat.reduceLeDiff, Int.reduceToNat, Int.reduceNeg, Int.reduceLT, Int.reduceLE, Int.reduceEq, reduceCtorEq]; rfl, by simp only [*, -hK], fun q hq => by omega⟩ ?_
    rintro k fr' H' A R hA hs hg hR ⟨i, rfl, hi, f4, rfl, hall⟩
    have s1 := hg 1 (by decide)
    have s3 := hg 3 (by decide)
    simp only [Fr.get_put, Fr.get_init, List.getD_cons_zero, List.getD_cons_succ, Nat.reduceEqDiff, if_true, if_false] at s1 s3
    refine wx_sound hT _ ?_
    repeat' (first | simp only [go_sem, Nat.reduceLT, Nat.reduceEqDiff, Nat.reduceAdd, Nat.reduceMul, Nat.reduceSub, Nat.reduceLeDiff, Int.reduceToNat, Int.reduceNeg, Int.reduceLT, Int.reduceLE, Int.reduceEq, reduceCtorEq, Int.natCast_zero, Int.natCast_one, Int.cast_ofNat_Int, Bool.not_not, false_eq_decide, true_eq_decide, hread0, hreadk, read_cons0, read_consk, astore_h0, astore_hk, hget0, hgetk, hset0, hsetk, hlen, hcat, Nat.add_assoc, Nat.add_zero, Nat.zero_add, List.length_append, and_true, true_and, AV.flat, *, -hK] | with_reducible refine IfB_dec (fun h => ?_) (fun h => ?_) | with_reducible refine Guard_dec (fun h => ?_) (fun h => ?_) | with_reducible refine Guard_ndec (fun h => ?_) (fun h => ?_) | with_reducible refine Guard_not (fun h => ?_) (fun h => ?_) | with_reducible refine IfB_ndec (fun h => ?_) (fun h => ?_) | with_reducible refine IfB_not (fun h => ?_) (fun h => ?_) | with_reducible refine Guard_split (fun h => ?_) (fun h => ?_) | with_reducible refine IfB_split (fun h => ?_) (fun h => ?_))
    case refine_1 =>
      have hlt : i < c.keys.length := by omega
      have e1 := at_enc (E := Enc.str) (k := .i64) se22 hlt rfl
      have e3 := inc_id hlt (show c.keys.length ≤ 140737488355328 by omega)
      have e4 : Enc.str.cells c.keys[i] = [.str c.keys[i]] := rfl
      repeat' (first | simp only [go_sem, Nat.reduceLT, Nat.reduceEqDiff, Nat.reduceAdd, Nat.reduceMul, Nat.reduceSub, Nat.reduceLeDiff, Int.reduceToNat, Int.reduceNeg, Int.reduceLT, Int.reduceLE, Int.reduceEq, reduceCtorEq, Int.natCast_zero, Int.natCast_one, Int.cast_ofNat_Int, Bool.not_not, false_eq_decide, true_eq_decide, hread0, hreadk, read_cons0, read_consk, astore_h0, astore_hk, hget0, hgetk, hset0, hsetk, hlen, hcat, Nat.add_assoc, Nat.add_zero, Nat.zero_add, List.length_append, and_true, true_and, AV.flat, *, -hK] | with_reducible refine IfB_dec (fun h => ?_) (fun h => ?_) | with_reducible refine Guard_dec (fun h => ?_) (fun h => ?_) | with_reducible refine Guard_ndec (fun h => ?_) (fun h => ?_) | with_reducible refine Guard_not (fun h => ?_) (fun h => ?_) | with_reducible refine IfB_ndec (fun h => ?_) (fun h => ?_) | with_reducible refine IfB_not (fun h => ?_) (fun h => ?_) | with_reducible refine Guard_split (fun h => ?_) (fun h => ?_) | with_reducible refine IfB_split (fun h => ?_) (fun h => ?_))
      all_goals first
        | (refine hK _ _ (Thaw.of_eq ?_ rfl) (Keep.app _ _ _); congr 1; symm; rw [keysB, kGo_all, Bool.and_eq_false_iff]; right; rw [Bool.and_eq_false_iff]; left; rw [decide_eq_false_iff_not]; intro hx; have := hx _ (List.getElem_mem hlt); have := List.length_eq_zero_iff (l := c.keys[i]); first | omega | (simp_all; done))
        | (refine hR _ _ (by (repeat (first | exact hs | refine hA _ _ _ (by decide) ?_))) (c.keys.length - (i + 1)) (by omega) ⟨i + 1, rfl, by omega, by simp only [go_sem, Nat.reduceLT, Nat.reduceEqDiff, Nat.reduceAdd, Nat.reduceMul, Nat.reduceSub, Nat.reduceLeDiff, Int.reduceToNat, Int.reduceNeg, Int.reduceLT, Int.reduceLE, Int.reduceEq, reduceCtorEq], by simp only [*, -hK, -hR], fun q hq hx => ?_⟩; exact (Classical.em (q = i)).elim (fun e => by subst e; omega) (fun e => hall q (by omega) hx))
    case refine_2 =>
      repeat' (first | simp only [go_sem, Nat.reduceLT, Nat.reduceEqDiff, Nat.reduceAdd, Nat.reduceMul, Nat.reduceSub, Nat.reduceLeDiff, Int.reduceToNat, Int.reduceNeg, Int.reduceLT, Int.reduceLE, Int.reduceEq, reduceCtorEq, Int.natCast_zero, Int.natCast_one, Int.cast_ofNat_Int, Bool.not_not, false_eq_decide, true_eq_decide, hread0, hreadk, read_cons0, read_consk, astore_h0, astore_hk, hget0, hgetk, hset0, hsetk, hlen, hcat, Nat.add_assoc, Nat.add_zero, Nat.zero_add, List.length_append, and_true, true_and, AV.flat, *, -hK] | refine WC.call (twice_spec c.keys hn _) ?_ | with_reducible refine IfB_dec (fun h => ?_) (fun h => ?_) | with_reducible refine Guard_dec (fun h => ?_) (fun h => ?_) | with_reducible refine Guard_ndec (fun h => ?_) (fun h => ?_) | with_reducible refine Guard_not (fun h => ?_) (fun h => ?_) | with_reducible refine IfB_ndec (fun h => ?_) (fun h => ?_) | with_reducible refine IfB_not (fun h => ?_) (fun h => ?_) | with_reducible refine Guard_split (fun h => ?_) (fun h => ?_) | with_reducible refine IfB_split (fun h => ?_) (fun h => ?_))
      refine hK _ _ (Thaw.of_eq ?_ rfl) (Keep.app _ _ _)
      have hin : i = c.keys.length := by omega
      congr 1
      have d1 : ∀ k ∈ c.keys, 1 ≤ k.length ∧ k.length ≤ 32 := fun k hk => by
        obtain ⟨q, hq, rfl⟩ := List.getElem_of_mem hk
        exact hall q (by omega) hq
      have d2 : loK c.kind ≤ c.keys.length ∧ c.keys.length ≤ hiK c.kind := by
        unfold loK hiK; (repeat' split) <;> omega
      rw [keysB, kGo_all, decide_eq_true d1, decide_eq_true d2, Bool.true_and, Bool.true_and]
end Go.Proofs.Ytkkgkljikmhldaa
