import Derived.Test.YtkmkhiipiflelaaTktP
set_option linter.unusedSimpArgs false
set_option linter.unusedVariables false
set_option maxRecDepth 100000
set_option maxHeartbeats 4000000
namespace Go.Proofs.Ytkmkhiipiflelaa
open Go Go.Proofs Go.Proofs.PI
/-! ### New, Shards, Put -/
theorem shardsL_lt {t : Tkt} {n : Nat} {j : Int} (h : j ∈ shardsL t n) : ∃ k : Nat, j = k ∧ k < n := by
  unfold shardsL at h
  split at h
  · unfold shL at h
    split at h
    · unfold needL at h
      obtain ⟨k, hk, rfl⟩ := List.mem_map.1 h
      have := List.mem_range.1 (List.mem_filter.1 hk).1
      exact ⟨k, rfl, by rw [Int.toNat_natCast] at this; exact this⟩
    · cases h
  · unfold rangeI at h
    obtain ⟨k, hk, rfl⟩ := List.mem_map.1 h
    exact ⟨k, rfl, List.mem_range.1 hk⟩
theorem nodup_casts {l : List Nat} (h : l.Nodup) : (l.map fun i : Nat => (i : Int)).Nodup := by
  rw [List.nodup_iff_pairwise_ne] at h ⊢
  rw [List.pairwise_map]
  exact h.imp fun e => by omega
theorem shardsL_nodup (t : Tkt) (n : Nat) : (shardsL t n).Nodup := by
  unfold shardsL
  split
  · unfold shL
    split
    · unfold needL
      exact nodup_casts (List.nodup_range.filter _)
    · exact List.nodup_nil
  · exact nodup_casts List.nodup_range
theorem shardsL_len (t : Tkt) (n : Nat) : (shardsL t n).length ≤ n := by
  unfold shardsL
  split
  · unfold shL
    split
    · have := needL_len t.cmd n (n : Int).toNat
      rw [Int.toNat_natCast] at this ⊢; exact this
    · simp
  · rw [rangeI_len]; exact Nat.le_refl _
def que0 : Que := ⟨0, []⟩
def tkt0 : Tkt := ⟨0, 0, cmd0, 0, 0⟩
def newR (n : Int) : Que × Int := if n < 1 ∨ n > 4 then (que0, 2) else (⟨0, List.replicate n.toNat []⟩, 0)
theorem new_spec (n : Int) (H : Heap) : WC Try.prog 10 [.int .i64 n] H fun r H' => r = .tup [(newR n).1.av, .int .i64 (newR n).2] ∧ H' = H := by
  refine WC_val fun K hK => ?_
  by_cases i1 : n < 1
  · rw [show newR n = (que0, 2) by unfold newR; rw [if_pos (.inl i1)]] at hK
    refine WC_of_body hT Try.func10 rfl (by simp [Try.f10]) (by simp [Try.f10]) (wx_sound hT _ ?_)
    simp only [Try.f10]
    repeat' (first | simp only [go_sem, Nat.reduceLT, Nat.reduceEqDiff, Nat.reduceAdd, Nat.reduceMul, Nat.reduceSub, Nat.reduceLeDiff, Int.reduceToNat, Int.reduceNeg, Int.reduceLT, Int.reduceLE, Int.reduceEq, reduceCtorEq, Int.natCast_zero, Int.natCast_one, Int.cast_ofNat_Int, Bool.not_not, false_eq_decide, true_eq_decide, hread0, hreadk, read_cons0, read_consk, astore_h0, astore_hk, hget0, hgetk, hset0, hsetk, hlen, hcat, Nat.add_assoc, Nat.add_zero, Nat.zero_add, List.length_append, and_true, true_and, AV.flat, *, -hK] | with_reducible refine IfB_dec (fun h => ?_) (fun h => ?_) | with_reducible refine Guard_dec (fun h => ?_) (fun h => ?_) | with_reducible refine Guard_ndec (fun h => ?_) (fun h => ?_) | with_reducible refine Guard_not (fun h => ?_) (fun h => ?_) | with_reducible refine IfB_ndec (fun h => ?_) (fun h => ?_) | with_reducible refine IfB_not (fun h => ?_) (fun h => ?_) | with_reducible refine Guard_split (fun h => ?_) (fun h => ?_) | with_reducible refine IfB_split (fun h => ?_) (fun h => ?_))
    exact hK _ _ (Thaw.tup_row ⟨Thaw.agg_row ⟨.int _ _, .nils, trivial⟩, .int _ _, trivial⟩) (Keep.app _ _ _)
  by_cases i2 : n > 4
  · rw [show newR n = (que0, 2) by unfold newR; rw [if_pos (.inr i2)]] at hK
    refine WC_of_body hT Try.func10 rfl (by simp [Try.f10]) (by simp [Try.f10]) (wx_sound hT _ ?_)
    simp only [Try.f10]
    repeat' (first | simp only [go_sem, Nat.reduceLT, Nat.reduceEqDiff, Nat.reduceAdd, Nat.reduceMul, Nat.reduceSub, Nat.reduceLeDiff, Int.reduceToNat, Int.reduceNeg, Int.reduceLT, Int.reduceLE, Int.reduceEq, reduceCtorEq, Int.natCast_zero, Int.natCast_one, Int.cast_ofNat_Int, Bool.not_not, false_eq_decide, true_eq_decide, hread0, hreadk, read_cons0, read_consk, astore_h0, astore_hk, hget0, hgetk, hset0, hsetk, hlen, hcat, Nat.add_assoc, Nat.add_zero, Nat.zero_add, List.length_append, and_true, true_and, AV.flat, *, -hK] | with_reducible refine IfB_dec (fun h => ?_) (fun h => ?_) | with_reducible refine Guard_dec (fun h => ?_) (fun h => ?_) | with_reducible refine Guard_ndec (fun h => ?_) (fun h => ?_) | with_reducible refine Guard_not (fun h => ?_) (fun h => ?_) | with_reducible refine IfB_ndec (fun h => ?_) (fun h => ?_) | with_reducible refine IfB_not (fun h => ?_) (fun h => ?_) | with_reducible refine Guard_split (fun h => ?_) (fun h => ?_) | with_reducible refine IfB_split (fun h => ?_) (fun h => ?_))
    exact hK _ _ (Thaw.tup_row ⟨Thaw.agg_row ⟨.int _ _, .nils, trivial⟩, .int _ _, trivial⟩) (Keep.app _ _ _)
  rw [show newR n = (⟨0, List.replicate n.toNat []⟩, 0) by unfold newR; rw [if_neg (by omega)]] at hK
  obtain ⟨k, rfl⟩ : ∃ k : Nat, n = k := ⟨n.toNat, by omega⟩
  rw [Int.toNat_natCast] at hK
  have hc : (0 : Int) ≤ k ∧ (k : Int) ≤ k ∧ (k : Int) ≤ 140737488355328 ∧ 24 * (k : Int) ≤ 140737488355328 := by omega
  have hj : (k : Int).toNat = k := Int.toNat_natCast _
  refine WC_of_body hT Try.func10 rfl (by simp [Try.f10]) (by simp [Try.f10]) (wx_sound hT _ ?_)
  simp only [Try.f10]
  repeat' (first | simp only [go_sem, Nat.reduceLT, Nat.reduceEqDiff, Nat.reduceAdd, Nat.reduceMul, Nat.reduceSub, Nat.reduceLeDiff, Int.reduceToNat, Int.reduceNeg, Int.reduceLT, Int.reduceLE, Int.reduceEq, reduceCtorEq, Int.natCast_zero, Int.natCast_one, Int.cast_ofNat_Int, Bool.not_not, false_eq_decide, true_eq_decide, hread0, hreadk, read_cons0, read_consk, astore_h0, astore_hk, hget0, hgetk, hset0, hsetk, hlen, hcat, Nat.add_assoc, Nat.add_zero, Nat.zero_add, List.length_append, and_true, true_and, AV.flat, *, -hK, -hc, -hj] | with_reducible refine IfB_dec (fun h => ?_) (fun h => ?_) | with_reducible refine Guard_dec (fun h => ?_) (fun h => ?_) | with_reducible refine Guard_ndec (fun h => ?_) (fun h => ?_) | with_reducible refine Guard_not (fun h => ?_) (fun h => ?_) | with_reducible refine IfB_ndec (fun h => ?_) (fun h => ?_) | with_reducible refine IfB_not (fun h => ?_) (fun h => ?_) | with_reducible refine Guard_split (fun h => ?_) (fun h => ?_) | with_reducible refine IfB_split (fun h => ?_) (fun h => ?_))
  rw [if_pos hc]
  simp only [hj, flat_nils]
  repeat' (first | simp only [go_sem, Nat.reduceLT, Nat.reduceEqDiff, Nat.reduceAdd, Nat.reduceMul, Nat.reduceSub, Nat.reduceLeDiff, Int.reduceToNat, Int.reduceNeg, Int.reduceLT, Int.reduceLE, Int.reduceEq, reduceCtorEq, Int.natCast_zero, Int.natCast_one, Int.cast_ofNat_Int, Bool.not_not, false_eq_decide, true_eq_decide, hread0, hreadk, read_cons0, read_consk, astore_h0, astore_hk, hget0, hgetk, hset0, hsetk, hlen, hcat, Nat.add_assoc, Nat.add_zero, Nat.zero_add, List.length_append, and_true, true_and, AV.flat, *, -hK, -hc, -hj] | with_reducible refine IfB_dec (fun h => ?_) (fun h => ?_) | with_reducible refine Guard_dec (fun h => ?_) (fun h => ?_) | with_reducible refine Guard_ndec (fun h => ?_) (fun h => ?_) | with_reducible refine Guard_not (fun h => ?_) (fun h => ?_) | with_reducible refine IfB_ndec (fun h => ?_) (fun h => ?_) | with_reducible refine IfB_not (fun h => ?_) (fun h => ?_) | with_reducible refine Guard_split (fun h => ?_) (fun h => ?_) | with_reducible refine IfB_split (fun h => ?_) (fun h => ?_))
  have w0 := BxO.new (m := H.length) (H ++ [(⟨[.int .i64 0, .sl (H.length + 1) 0 k none], 0, .full⟩ : Blk)]) k (by simp) (st := .full) rfl
  refine hK _ _ (Thaw.tup_row ⟨Thaw.agg_row ⟨.int _ _, ?_, trivial⟩, .int _ _, trivial⟩) ?_
  · have w1 := w0.thaw
    simpa using w1
  · exact Keep.app _ _ _
def tshE (t : Tkt) (n : Int) : Int := if t.mayB = false then 8 else if n < 1 ∨ n > 4 then 2 else 0
def tshL (t : Tkt) (n : Int) : List Int := if tshE t n = 0 then shardsL t n.toNat else []
theorem tshAll_spec (t : Tkt) (n : Int) (hn : t.cmd.keys.length ≤ 1000) (hks : ∀ k ∈ t.cmd.keys, k.length ≤ 100000) (H : Heap) : WC Try.prog 18 [t.av, .int .i64 n] H fun r H' => r = .tup [(Enc.int .i64).lst (tshL t n), .int .i64 (tshE t n)] ∧ H' = H := by
  refine WC_val fun K hK => ?_
  have my := fun J => tmay_spec t hn J
  cases hm : t.mayB with
  | false =>
    rw [hm] at my
    rw [show tshL t n = [] by unfold tshL tshE; rw [hm]; rfl, show tshE t n = 8 by unfold tshE; rw [if_pos hm]] at hK
    unfold Tkt.av at *
    refine WC_of_body hT Try.func18 rfl (by simp [Try.f18]) (by simp [Try.f18]) (wx_sound hT _ ?_)
    simp only [Try.f18]
    repeat' (first | simp only [go_sem, Nat.reduceLT, Nat.reduceEqDiff, Nat.reduceAdd, Nat.reduceMul, Nat.reduceSub, Nat.reduceLeDiff, Int.reduceToNat, Int.reduceNeg, Int.reduceLT, Int.reduceLE, Int.reduceEq, reduceCtorEq, Int.natCast_zero, Int.natCast_one, Int.cast_ofNat_Int, Bool.not_not, false_eq_decide, true_eq_decide, hread0, hreadk, read_cons0, read_consk, astore_h0, astore_hk, hget0, hgetk, hset0, hsetk, hlen, hcat, Nat.add_assoc, Nat.add_zero, Nat.zero_add, List.length_append, and_true, true_and, AV.flat, *, -hK, -my, -hm] | refine WC.call (my _) ?_ | with_reducible refine IfB_dec (fun h => ?_) (fun h => ?_) | with_reducible refine Guard_dec (fun h => ?_) (fun h => ?_) | with_reducible refine Guard_ndec (fun h => ?_) (fun h => ?_) | with_reducible refine Guard_not (fun h => ?_) (fun h => ?_) | with_reducible refine IfB_ndec (fun h => ?_) (fun h => ?_) | with_reducible refine IfB_not (fun h => ?_) (fun h => ?_) | with_reducible refine Guard_split (fun h => ?_) (fun h => ?_) | with_reducible refine IfB_split (fun h => ?_) (fun h => ?_))
    exact hK _ _ (Thaw.tup_row ⟨.nils, .int _ _, trivial⟩) (Keep.app _ _ _)
  | true =>
  rw [hm] at my
  by_cases i1 : n < 1
  · have hE : tshE t n = 2 := by unfold tshE; rw [hm, if_neg (by decide), if_pos (.inl i1)]
    rw [show tshL t n = [] by unfold tshL; rw [hE]; rfl, hE] at hK
    unfold Tkt.av at *
    refine WC_of_body hT Try.func18 rfl (by simp [Try.f18]) (by simp [Try.f18]) (wx_sound hT _ ?_)
    simp only [Try.f18]
    repeat' (first | simp only [go_sem, Nat.reduceLT, Nat.reduceEqDiff, Nat.reduceAdd, Nat.reduceMul, Nat.reduceSub, Nat.reduceLeDiff, Int.reduceToNat, Int.reduceNeg, Int.reduceLT, Int.reduceLE, Int.reduceEq, reduceCtorEq, Int.natCast_zero, Int.natCast_one, Int.cast_ofNat_Int, Bool.not_not, false_eq_decide, true_eq_decide, hread0, hreadk, read_cons0, read_consk, astore_h0, astore_hk, hget0, hgetk, hset0, hsetk, hlen, hcat, Nat.add_assoc, Nat.add_zero, Nat.zero_add, List.length_append, and_true, true_and, AV.flat, *, -hK, -my, -hm] | refine WC.call (my _) ?_ | with_reducible refine IfB_dec (fun h => ?_) (fun h => ?_) | with_reducible refine Guard_dec (fun h => ?_) (fun h => ?_) | with_reducible refine Guard_ndec (fun h => ?_) (fun h => ?_) | with_reducible refine Guard_not (fun h => ?_) (fun h => ?_) | with_reducible refine IfB_ndec (fun h => ?_) (fun h => ?_) | with_reducible refine IfB_not (fun h => ?_) (fun h => ?_) | with_reducible refine Guard_split (fun h => ?_) (fun h => ?_) | with_reducible refine IfB_split (fun h => ?_) (fun h => ?_))
    exact hK _ _ (Thaw.tup_row ⟨.nils, .int _ _, trivial⟩) (Keep.app _ _ _)
  by_cases i2 : n > 4
  · have hE : tshE t n = 2 := by unfold tshE; rw [hm, if_neg (by decide), if_pos (.inr i2)]
    rw [show tshL t n = [] by unfold tshL; rw [hE]; rfl, hE] at hK
    unfold Tkt.av at *
    refine WC_of_body hT Try.func18 rfl (by simp [Try.f18]) (by simp [Try.f18]) (wx_sound hT _ ?_)
    simp only [Try.f18]
    repeat' (first | simp only [go_sem, Nat.reduceLT, Nat.reduceEqDiff, Nat.reduceAdd, Nat.reduceMul, Nat.reduceSub, Nat.reduceLeDiff, Int.reduceToNat, Int.reduceNeg, Int.reduceLT, Int.reduceLE, Int.reduceEq, reduceCtorEq, Int.natCast_zero, Int.natCast_one, Int.cast_ofNat_Int, Bool.not_not, false_eq_decide, true_eq_decide, hread0, hreadk, read_cons0, read_consk, astore_h0, astore_hk, hget0, hgetk, hset0, hsetk, hlen, hcat, Nat.add_assoc, Nat.add_zero, Nat.zero_add, List.length_append, and_true, true_and, AV.flat, *, -hK, -my, -hm] | refine WC.call (my _) ?_ | with_reducible refine IfB_dec (fun h => ?_) (fun h => ?_) | with_reducible refine Guard_dec (fun h => ?_) (fun h => ?_) | with_reducible refine Guard_ndec (fun h => ?_) (fun h => ?_) | with_reducible refine Guard_not (fun h => ?_) (fun h => ?_) | with_reducible refine IfB_ndec (fun h => ?_) (fun h => ?_) | with_reducible refine IfB_not (fun h => ?_) (fun h => ?_) | with_reducible refine Guard_split (fun h => ?_) (fun h => ?_) | with_reducible refine IfB_split (fun h => ?_) (fun h => ?_))
    exact hK _ _ (Thaw.tup_row ⟨.nils, .int _ _, trivial⟩) (Keep.app _ _ _)
  have hE : tshE t n = 0 := by unfold tshE; rw [hm, if_neg (by decide), if_neg (by omega)]
  rw [show tshL t n = shardsL t n.toNat by unfold tshL; rw [if_pos hE], hE] at hK
  obtain ⟨k, rfl⟩ : ∃ k : Nat, n = k := ⟨n.toNat, by omega⟩
  rw [Int.toNat_natCast] at hK
  have sh := fun J => tshards_spec t k (by omega) hn hks J
  unfold Tkt.av at *
  refine WC_of_body hT Try.func18 rfl (by simp [Try.f18]) (by simp [Try.f18]) (wx_sound hT _ ?_)
  simp only [Try.f18]
  repeat' (first | simp only [go_sem, Nat.reduceLT, Nat.reduceEqDiff, Nat.reduceAdd, Nat.reduceMul, Nat.reduceSub, Nat.reduceLeDiff, Int.reduceToNat, Int.reduceNeg, Int.reduceLT, Int.reduceLE, Int.reduceEq, reduceCtorEq, Int.natCast_zero, Int.natCast_one, Int.cast_ofNat_Int, Bool.not_not, false_eq_decide, true_eq_decide, hread0, hreadk, read_cons0, read_consk, astore_h0, astore_hk, hget0, hgetk, hset0, hsetk, hlen, hcat, Nat.add_assoc, Nat.add_zero, Nat.zero_add, List.length_append, and_true, true_and, AV.flat, *, -hK, -my, -hm, -sh] | refine WC.call (my _) ?_ | refine WC.call (sh _) ?_ | with_reducible refine IfB_dec (fun h => ?_) (fun h => ?_) | with_reducible refine Guard_dec (fun h => ?_) (fun h => ?_) | with_reducible refine Guard_ndec (fun h => ?_) (fun h => ?_) | with_reducible refine Guard_not (fun h => ?_) (fun h => ?_) | with_reducible refine IfB_ndec (fun h => ?_) (fun h => ?_) | with_reducible refine IfB_not (fun h => ?_) (fun h => ?_) | with_reducible refine Guard_split (fun h => ?_) (fun h => ?_) | with_reducible refine IfB_split (fun h => ?_) (fun h => ?_))
  exact hK _ _ (Thaw.tup_row (l' := [_, _]) ⟨.atom _ rfl, .int _ _, trivial⟩) (Keep.app _ _ _)
end Go.Proofs.Ytkmkhiipiflelaa
