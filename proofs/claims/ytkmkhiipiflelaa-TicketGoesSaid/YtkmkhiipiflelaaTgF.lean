import Derived.Test.YtkmkhiipiflelaaTgD
import Derived.Test.YtkmkhiipiflelaaTkR5
set_option linter.unusedSimpArgs false
set_option linter.unusedVariables false
set_option maxRecDepth 100000
set_option maxHeartbeats 4000000
namespace Go.Proofs.Ytkmkhiipiflelaa
open Go Go.Proofs Go.Proofs.PI
theorem new12_spec (n : Int) (H : Heap) : WC Try.prog 17 [.int .i64 n] H fun r H' => r = .tup [(newR n).1.av, .int .i64 (newR n).2] ∧ H' = H := by
  refine WC_val fun K hK => ?_
  by_cases i1 : n < 1
  · rw [show newR n = (que0, 2) by unfold newR; rw [if_pos (.inl i1)]] at hK
    refine WC_of_body hT Try.func17 rfl (by simp [Try.f17]) (by simp [Try.f17]) (wx_sound hT _ ?_)
    simp only [Try.f17]
    repeat' (first | simp only [go_sem, Nat.reduceLT, Nat.reduceEqDiff, Nat.reduceAdd, Nat.reduceMul, Nat.reduceSub, Nat.reduceLeDiff, Int.reduceToNat, Int.reduceNeg, Int.reduceLT, Int.reduceLE, Int.reduceEq, reduceCtorEq, Int.natCast_zero, Int.natCast_one, Int.cast_ofNat_Int, Bool.not_not, false_eq_decide, true_eq_decide, hread0, hreadk, read_cons0, read_consk, astore_h0, astore_hk, hget0, hgetk, hset0, hsetk, hlen, hcat, Nat.add_assoc, Nat.add_zero, Nat.zero_add, List.length_append, and_true, true_and, AV.flat, *, -hK] | with_reducible refine IfB_dec (fun h => ?_) (fun h => ?_) | with_reducible refine Guard_dec (fun h => ?_) (fun h => ?_) | with_reducible refine Guard_ndec (fun h => ?_) (fun h => ?_) | with_reducible refine Guard_not (fun h => ?_) (fun h => ?_) | with_reducible refine IfB_ndec (fun h => ?_) (fun h => ?_) | with_reducible refine IfB_not (fun h => ?_) (fun h => ?_) | with_reducible refine Guard_split (fun h => ?_) (fun h => ?_) | with_reducible refine IfB_split (fun h => ?_) (fun h => ?_))
    exact hK _ _ (Thaw.tup_row ⟨Thaw.agg_row ⟨.int _ _, .nils, trivial⟩, .int _ _, trivial⟩) (Keep.app _ _ _)
  by_cases i2 : n > 4
  · rw [show newR n = (que0, 2) by unfold newR; rw [if_pos (.inr i2)]] at hK
    refine WC_of_body hT Try.func17 rfl (by simp [Try.f17]) (by simp [Try.f17]) (wx_sound hT _ ?_)
    simp only [Try.f17]
    repeat' (first | simp only [go_sem, Nat.reduceLT, Nat.reduceEqDiff, Nat.reduceAdd, Nat.reduceMul, Nat.reduceSub, Nat.reduceLeDiff, Int.reduceToNat, Int.reduceNeg, Int.reduceLT, Int.reduceLE, Int.reduceEq, reduceCtorEq, Int.natCast_zero, Int.natCast_one, Int.cast_ofNat_Int, Bool.not_not, false_eq_decide, true_eq_decide, hread0, hreadk, read_cons0, read_consk, astore_h0, astore_hk, hget0, hgetk, hset0, hsetk, hlen, hcat, Nat.add_assoc, Nat.add_zero, Nat.zero_add, List.length_append, and_true, true_and, AV.flat, *, -hK] | with_reducible refine IfB_dec (fun h => ?_) (fun h => ?_) | with_reducible refine Guard_dec (fun h => ?_) (fun h => ?_) | with_reducible refine Guard_ndec (fun h => ?_) (fun h => ?_) | with_reducible refine Guard_not (fun h => ?_) (fun h => ?_) | with_reducible refine IfB_ndec (fun h => ?_) (fun h => ?_) | with_reducible refine IfB_not (fun h => ?_) (fun h => ?_) | with_reducible refine Guard_split (fun h => ?_) (fun h => ?_) | with_reducible refine IfB_split (fun h => ?_) (fun h => ?_))
    exact hK _ _ (Thaw.tup_row ⟨Thaw.agg_row ⟨.int _ _, .nils, trivial⟩, .int _ _, trivial⟩) (Keep.app _ _ _)
  rw [show newR n = (⟨0, List.replicate n.toNat []⟩, 0) by unfold newR; rw [if_neg (by omega)]] at hK
  obtain ⟨k, rfl⟩ : ∃ k : Nat, n = k := ⟨n.toNat, by omega⟩
  rw [Int.toNat_natCast] at hK
  have hc : (0 : Int) ≤ k ∧ (k : Int) ≤ k ∧ (k : Int) ≤ 140737488355328 ∧ 24 * (k : Int) ≤ 140737488355328 := by omega
  have hj : (k : Int).toNat = k := Int.toNat_natCast _
  refine WC_of_body hT Try.func17 rfl (by simp [Try.f17]) (by simp [Try.f17]) (wx_sound hT _ ?_)
  simp only [Try.f17]
  repeat' (first | simp only [go_sem, Nat.reduceLT, Nat.reduceEqDiff, Nat.reduceAdd, Nat.reduceMul, Nat.reduceSub, Nat.reduceLeDiff, Int.reduceToNat, Int.reduceNeg, Int.reduceLT, Int.reduceLE, Int.reduceEq, reduceCtorEq, Int.natCast_zero, Int.natCast_one, Int.cast_ofNat_Int, Bool.not_not, false_eq_decide, true_eq_decide, hread0, hreadk, read_cons0, read_consk, astore_h0, astore_hk, hget0, hgetk, hset0, hsetk, hlen, hcat, Nat.add_assoc, Nat.add_zero, Nat.zero_add, List.length_append, and_true, true_and, AV.flat, *, -hK, -hc, -hj] | with_reducible refine IfB_dec (fun h => ?_) (fun h => ?_) | with_reducible refine Guard_dec (fun h => ?_) (fun h => ?_) | with_reducible refine Guard_ndec (fun h => ?_) (fun h => ?_) | with_reducible refine Guard_not (fun h => ?_) (fun h => ?_) | with_reducible refine IfB_ndec (fun h => ?_) (fun h => ?_) | with_reducible refine IfB_not (fun h => ?_) (fun h => ?_) | with_reducible refine Guard_split (fun h => ?_) (fun h => ?_) | with_reducible refine IfB_split (fun h => ?_) (fun h => ?_))
  rw [if_pos hc]
  simp only [hj, flat_nils]
  repeat' (first | simp only [go_sem, Nat.reduceLT, Nat.reduceEqDiff, Nat.reduceAdd, Nat.reduceMul, Nat.reduceSub, Nat.reduceLeDiff, Int.reduceToNat, Int.reduceNeg, Int.reduceLT, Int.reduceLE, Int.reduceEq, reduceCtorEq, Int.natCast_zero, Int.natCast_one, Int.cast_ofNat_Int, Bool.not_not, false_eq_decide, true_eq_decide, hread0, hreadk, read_cons0, read_consk, astore_h0, astore_hk, hget0, hgetk, hset0, hsetk, hlen, hcat, Nat.add_assoc, Nat.add_zero, Nat.zero_add, List.length_append, and_true, true_and, AV.flat, *, -hK, -hc, -hj] | with_reducible refine IfB_dec (fun h => ?_) (fun h => ?_) | with_reducible refine Guard_dec (fun h => ?_) (fun h => ?_) | with_reducible refine Guard_ndec (fun h => ?_) (fun h => ?_) | with_reducible refine Guard_not (fun h => ?_) (fun h => ?_) | with_reducible refine IfB_ndec (fun h => ?_) (fun h => ?_) | with_reducible refine IfB_not (fun h => ?_) (fun h => ?_) | with_reducible refine Guard_split (fun h => ?_) (fun h => ?_) | with_reducible refine IfB_split (fun h => ?_) (fun h => ?_))
  have w0 := BxO.new (m := H.length) (H ++ [(⟨[.int .i64 0, .sl (H.length + 1) 0 k none], 0, .full⟩ : Blk)]) k (by simp) (st := .full) rfl
  refine hK _ _ (Thaw.tup_row ⟨Thaw.agg_row ⟨.int _ _, ?_, trivial⟩, .int _ _, trivial⟩) ?_
  · have w1 := w0.thaw
    simpa using w1
  · exact Keep.app _ _ _

theorem fz_nils {H G : Heap} (h : Fz H .nils G) : G = H := List.ext_getElem? fun b => h.other b (by simp [AV.blk])
theorem sameCmd0 (c : Cmd) (hn : c.keys.length ≤ 1000) (H : Heap) : WC Try.prog 42 [c.av, .agg [.int .u8 0, .int .i64 0, .nils, .str [], .int .u32 0, .int .i64 0, .int .u64 0, .int .u64 0]] H fun r H' => r = .bool (decide (c = cmd0)) ∧ H' = H := by
  refine WC_freezeE (E := Enc.str) (m := 0) [c.av, cmd0.av] (v := .nils) (xs := []) (OwnE.nils _ _ _) (by decide) ⟨.same _, FrzR.agg [.int .u8 0, .int .i64 0, .nils, .str [], .int .u32 0, .int .i64 0, .int .u64 0, .int .u64 0] [.int .u8 0, .int .i64 0, Enc.str.lst [], .str [], .int .u32 0, .int .i64 0, .int .u64 0, .int .u64 0] rfl (FrzR.row (l := [.int .u8 0, .int .i64 0, .nils, .str [], .int .u32 0, .int .i64 0, .int .u64 0, .int .u64 0]) (l' := [.int .u8 0, .int .i64 0, Enc.str.lst [], .str [], .int .u32 0, .int .i64 0, .int .u64 0, .int .u64 0]) ⟨.same _, .same _, .here, .same _, .same _, .same _, .same _, .same _, trivial⟩).2, trivial⟩ fun G hG => by rw [fz_nils hG]; exact sameCmd_spec c cmd0 hn H
theorem stands_spec (l : List Tkt) (t : Tkt) (hl : l.length ≤ 1000000) (hk : ∀ x ∈ l, x.cmd.keys.length ≤ 1000) (H : Heap) : WC Try.prog 57 [tktE.lst l, t.av] H fun r H' => r = .bool (decide (t ∈ l)) ∧ H' = H := by
  refine WC_val fun K hK => ?_
  unfold Tkt.av
  refine WC_of_body hT Try.func57 rfl (by simp [Try.f57]) (by simp [Try.f57]) (wx_sound hT _ ?_)
  simp only [Try.f57]
  repeat' (first | simp only [go_sem, Nat.reduceLT, Nat.reduceEqDiff, Nat.reduceAdd, Nat.reduceMul, Nat.reduceSub, Nat.reduceLeDiff, Int.reduceToNat, Int.reduceNeg, Int.reduceLT, Int.reduceLE, Int.reduceEq, reduceCtorEq, Int.natCast_zero, Int.natCast_one, Int.cast_ofNat_Int, Bool.not_not, false_eq_decide, true_eq_decide, hread0, hreadk, read_cons0, read_consk, astore_h0, astore_hk, hget0, hgetk, hset0, hsetk, hlen, hcat, Nat.add_assoc, Nat.add_zero, Nat.zero_add, List.length_append, and_true, true_and, AV.flat, *, -hK, -hk] | with_reducible refine IfB_dec (fun h => ?_) (fun h => ?_) | with_reducible refine Guard_dec (fun h => ?_) (fun h => ?_) | with_reducible refine Guard_ndec (fun h => ?_) (fun h => ?_) | with_reducible refine Guard_not (fun h => ?_) (fun h => ?_) | with_reducible refine IfB_ndec (fun h => ?_) (fun h => ?_) | with_reducible refine IfB_not (fun h => ?_) (fun h => ?_) | with_reducible refine Guard_split (fun h => ?_) (fun h => ?_) | with_reducible refine IfB_split (fun h => ?_) (fun h => ?_))
  have kG : Keep none H (H ++ [(⟨t.cs, 0, .full⟩ : Blk)]) := Keep.app _ _ _
  have g0 : (H ++ [(⟨t.cs, 0, .full⟩ : Blk)])[H.length]? = some ⟨t.cs, 0, .full⟩ := by simp
  unfold Tkt.cs at g0 kG
  generalize (H ++ [(⟨[.int .i64 t.num, .int .u8 t.kind, .int .u8 t.cmd.kind, .int .i64 t.cmd.ten, Enc.str.lst t.cmd.keys, .str t.cmd.val, .int .u32 t.cmd.flags, .int .i64 t.cmd.for_, .int .u64 t.cmd.uniq, .int .u64 t.cmd.by_, .int .i64 t.ten, .int .i64 t.to], 0, .full⟩ : Blk)] : Heap) = G at *
  refine WX_loopS [0, 3] (fun kn fr' J => ∃ i : Nat, kn = l.length - i ∧ i ≤ l.length ∧ fr'.get 5 = .int .i64 i ∧ J = G ∧ t ∉ l.take i) l.length ⟨0, rfl, by omega, by simp only [go_sem, Nat.reduceLT, Nat.reduceEqDiff, Nat.reduceAdd, Nat.reduceMul, Nat.reduceSub, Nat.reduceLeDiff, Int.reduceToNat, Int.reduceNeg, Int.reduceLT, Int.reduceLE, Int.reduceEq, reduceCtorEq]; rfl, rfl, by simp⟩ ?_
  rintro kn fr' J A R hA hs hg hR ⟨i, rfl, hi, f5, rfl, hno⟩
  have s0 := hg 0 (by decide)
  have s3 := hg 3 (by decide)
  simp only [Fr.get_put, Fr.get_init, List.getD_cons_zero, List.getD_cons_succ, Nat.reduceEqDiff, if_true, if_false] at s0 s3
  refine wx_sound hT _ ?_
  by_cases hlt : i < l.length
  rotate_left
  · have i1 : ¬ (i : Int) < l.length := by omega
    rw [List.take_of_length_le (by omega)] at hno
    rw [decide_eq_false hno] at hK
    repeat' (first | simp only [go_sem, Nat.reduceLT, Nat.reduceEqDiff, Nat.reduceAdd, Nat.reduceMul, Nat.reduceSub, Nat.reduceLeDiff, Int.reduceToNat, Int.reduceNeg, Int.reduceLT, Int.reduceLE, Int.reduceEq, reduceCtorEq, Int.natCast_zero, Int.natCast_one, Int.cast_ofNat_Int, Bool.not_not, false_eq_decide, true_eq_decide, hread0, hreadk, read_cons0, read_consk, astore_h0, astore_hk, hget0, hgetk, hset0, hsetk, hlen, hcat, Nat.add_assoc, Nat.add_zero, Nat.zero_add, List.length_append, and_true, true_and, AV.flat, *, -hK, -hno, -hlt, -kG, -hk] | with_reducible refine IfB_dec (fun h => ?_) (fun h => ?_) | with_reducible refine Guard_dec (fun h => ?_) (fun h => ?_) | with_reducible refine Guard_ndec (fun h => ?_) (fun h => ?_) | with_reducible refine Guard_not (fun h => ?_) (fun h => ?_) | with_reducible refine IfB_ndec (fun h => ?_) (fun h => ?_) | with_reducible refine IfB_not (fun h => ?_) (fun h => ?_) | with_reducible refine Guard_split (fun h => ?_) (fun h => ?_) | with_reducible refine IfB_split (fun h => ?_) (fun h => ?_))
    exact hK _ _ (.bool _) kG
  have i1 : (i : Int) < l.length := by omega
  have e3 := inc_id hlt (by omega)
  have e1 := at_enc (E := tktE) (T := T) (k := .i64) se31 hlt rfl
  rw [tktE_cells] at e1
  have sm := fun J => same12_spec l[i] t (hk _ (List.getElem_mem hlt)) J
  have hin : l[i] = t → t ∈ l := fun e => e ▸ List.getElem_mem hlt
  have hst : l[i] ≠ t → t ∉ l.take (i + 1) := fun h hm => by
    rw [List.take_succ_eq_append_getElem hlt] at hm
    rcases List.mem_append.1 hm with hm | hm
    · exact hno hm
    · exact h (List.mem_singleton.1 hm).symm
  have back : t ∉ l.take (i + 1) → ∀ fr2, A fr2 → fr2.get 5 = .int .i64 ((i + 1 : Nat) : Int) → R fr2 J := fun hn fr2 ha q1 => hR fr2 J ha (l.length - (i + 1)) (by omega) ⟨i + 1, rfl, by omega, q1, rfl, hn⟩
  clear hR
  generalize l[i] = x at *
  unfold Tkt.av at sm
  by_cases hx : x = t
  · have h1 := hin hx
    rw [decide_eq_true hx] at sm
    rw [decide_eq_true h1] at hK
    clear h1 hin hst hx
    repeat' (first | simp only [go_sem, Nat.reduceLT, Nat.reduceEqDiff, Nat.reduceAdd, Nat.reduceMul, Nat.reduceSub, Nat.reduceLeDiff, Int.reduceToNat, Int.reduceNeg, Int.reduceLT, Int.reduceLE, Int.reduceEq, reduceCtorEq, Int.natCast_zero, Int.natCast_one, Int.cast_ofNat_Int, Bool.not_not, false_eq_decide, true_eq_decide, hread0, hreadk, read_cons0, read_consk, astore_h0, astore_hk, hget0, hgetk, hset0, hsetk, hlen, hcat, Nat.add_assoc, Nat.add_zero, Nat.zero_add, List.length_append, and_true, true_and, AV.flat, g0, get_app g0, read_get g0, read_app g0, *, -hK, -hno, -hlt, -kG, -hk, -sm, -back] | with_reducible refine IfB_dec (fun h => ?_) (fun h => ?_) | with_reducible refine Guard_dec (fun h => ?_) (fun h => ?_) | with_reducible refine Guard_ndec (fun h => ?_) (fun h => ?_) | with_reducible refine Guard_not (fun h => ?_) (fun h => ?_) | with_reducible refine IfB_ndec (fun h => ?_) (fun h => ?_) | with_reducible refine IfB_not (fun h => ?_) (fun h => ?_) | with_reducible refine Guard_split (fun h => ?_) (fun h => ?_) | with_reducible refine IfB_split (fun h => ?_) (fun h => ?_))
    refine WX_rows hT hmix [(0, none), (1, none), (2, none), (3, none), (4, none), (5, some [true, true, true, true, true])] (by kernel_rfl) ?_
    repeat' (first | simp only [go_sem, Nat.reduceLT, Nat.reduceEqDiff, Nat.reduceAdd, Nat.reduceMul, Nat.reduceSub, Nat.reduceLeDiff, Int.reduceToNat, Int.reduceNeg, Int.reduceLT, Int.reduceLE, Int.reduceEq, reduceCtorEq, Int.natCast_zero, Int.natCast_one, Int.cast_ofNat_Int, Bool.not_not, false_eq_decide, true_eq_decide, hread0, hreadk, read_cons0, read_consk, astore_h0, astore_hk, hget0, hgetk, hset0, hsetk, hlen, hcat, Nat.add_assoc, Nat.add_zero, Nat.zero_add, List.length_append, and_true, true_and, AV.flat, g0, get_app g0, read_get g0, read_app g0, *, -hK, -hno, -hlt, -kG, -hk, -sm, -back] | refine WC.call (sm _) ?_ | with_reducible refine IfB_dec (fun h => ?_) (fun h => ?_) | with_reducible refine Guard_dec (fun h => ?_) (fun h => ?_) | with_reducible refine Guard_ndec (fun h => ?_) (fun h => ?_) | with_reducible refine Guard_not (fun h => ?_) (fun h => ?_) | with_reducible refine IfB_ndec (fun h => ?_) (fun h => ?_) | with_reducible refine IfB_not (fun h => ?_) (fun h => ?_) | with_reducible refine Guard_split (fun h => ?_) (fun h => ?_) | with_reducible refine IfB_split (fun h => ?_) (fun h => ?_))
    exact hK _ _ (.bool _) kG
  · have back := back (hst hx)
    rw [decide_eq_false hx] at sm
    clear hin hst hx
    repeat' (first | simp only [go_sem, Nat.reduceLT, Nat.reduceEqDiff, Nat.reduceAdd, Nat.reduceMul, Nat.reduceSub, Nat.reduceLeDiff, Int.reduceToNat, Int.reduceNeg, Int.reduceLT, Int.reduceLE, Int.reduceEq, reduceCtorEq, Int.natCast_zero, Int.natCast_one, Int.cast_ofNat_Int, Bool.not_not, false_eq_decide, true_eq_decide, hread0, hreadk, read_cons0, read_consk, astore_h0, astore_hk, hget0, hgetk, hset0, hsetk, hlen, hcat, Nat.add_assoc, Nat.add_zero, Nat.zero_add, List.length_append, and_true, true_and, AV.flat, g0, get_app g0, read_get g0, read_app g0, *, -hK, -hno, -hlt, -kG, -hk, -sm, -back] | with_reducible refine IfB_dec (fun h => ?_) (fun h => ?_) | with_reducible refine Guard_dec (fun h => ?_) (fun h => ?_) | with_reducible refine Guard_ndec (fun h => ?_) (fun h => ?_) | with_reducible refine Guard_not (fun h => ?_) (fun h => ?_) | with_reducible refine IfB_ndec (fun h => ?_) (fun h => ?_) | with_reducible refine IfB_not (fun h => ?_) (fun h => ?_) | with_reducible refine Guard_split (fun h => ?_) (fun h => ?_) | with_reducible refine IfB_split (fun h => ?_) (fun h => ?_))
    refine WX_rows hT hmix [(0, none), (1, none), (2, none), (3, none), (4, none), (5, some [true, true, true, true, true])] (by kernel_rfl) ?_
    repeat' (first | simp only [go_sem, Nat.reduceLT, Nat.reduceEqDiff, Nat.reduceAdd, Nat.reduceMul, Nat.reduceSub, Nat.reduceLeDiff, Int.reduceToNat, Int.reduceNeg, Int.reduceLT, Int.reduceLE, Int.reduceEq, reduceCtorEq, Int.natCast_zero, Int.natCast_one, Int.cast_ofNat_Int, Bool.not_not, false_eq_decide, true_eq_decide, hread0, hreadk, read_cons0, read_consk, astore_h0, astore_hk, hget0, hgetk, hset0, hsetk, hlen, hcat, Nat.add_assoc, Nat.add_zero, Nat.zero_add, List.length_append, and_true, true_and, AV.flat, g0, get_app g0, read_get g0, read_app g0, *, -hK, -hno, -hlt, -kG, -hk, -sm, -back] | refine WC.call (sm _) ?_ | with_reducible refine IfB_dec (fun h => ?_) (fun h => ?_) | with_reducible refine Guard_dec (fun h => ?_) (fun h => ?_) | with_reducible refine Guard_ndec (fun h => ?_) (fun h => ?_) | with_reducible refine Guard_not (fun h => ?_) (fun h => ?_) | with_reducible refine IfB_ndec (fun h => ?_) (fun h => ?_) | with_reducible refine IfB_not (fun h => ?_) (fun h => ?_) | with_reducible refine Guard_split (fun h => ?_) (fun h => ?_) | with_reducible refine IfB_split (fun h => ?_) (fun h => ?_))
    exact back _ (by (repeat (first | exact hs | refine hA _ _ _ (by decide) ?_))) (by simp only [go_sem, Nat.reduceLT, Nat.reduceEqDiff, Nat.reduceAdd, Nat.reduceMul, Nat.reduceSub, Nat.reduceLeDiff, Int.reduceToNat, Int.reduceNeg, Int.reduceLT, Int.reduceLE, Int.reduceEq, reduceCtorEq])
theorem sameI_spec (l : List Int) (hl : l.length ≤ 1000000) (H : Heap) : WC Try.prog 24 [(Enc.int .i64).lst l, (Enc.int .i64).lst l] H fun r H' => r = .bool true ∧ H' = H := by
  refine WC_of_K fun K hK => ?_
  refine WC_of_body hT Try.func24 rfl (by simp [Try.f24]) (by simp [Try.f24]) (wx_sound hT _ ?_)
  simp only [Try.f24]
  repeat' (first | simp only [go_sem, Nat.reduceLT, Nat.reduceEqDiff, Nat.reduceAdd, Nat.reduceMul, Nat.reduceSub, Nat.reduceLeDiff, Int.reduceToNat, Int.reduceNeg, Int.reduceLT, Int.reduceLE, Int.reduceEq, reduceCtorEq, Int.natCast_zero, Int.natCast_one, Int.cast_ofNat_Int, Bool.not_not, false_eq_decide, true_eq_decide, hread0, hreadk, read_cons0, read_consk, astore_h0, astore_hk, hget0, hgetk, hset0, hsetk, hlen, hcat, Nat.add_assoc, Nat.add_zero, Nat.zero_add, List.length_append, and_true, true_and, AV.flat, *, -hK] | with_reducible refine IfB_dec (fun h => ?_) (fun h => ?_) | with_reducible refine Guard_dec (fun h => ?_) (fun h => ?_) | with_reducible refine Guard_ndec (fun h => ?_) (fun h => ?_) | with_reducible refine Guard_not (fun h => ?_) (fun h => ?_) | with_reducible refine IfB_ndec (fun h => ?_) (fun h => ?_) | with_reducible refine IfB_not (fun h => ?_) (fun h => ?_) | with_reducible refine Guard_split (fun h => ?_) (fun h => ?_) | with_reducible refine IfB_split (fun h => ?_) (fun h => ?_))
  refine WX_loopS [0, 1] (fun kn fr' J => ∃ i : Nat, kn = l.length - i ∧ i ≤ l.length ∧ fr'.get 5 = .int .i64 i ∧ J = H) l.length ⟨0, rfl, by omega, by simp only [go_sem, Nat.reduceLT, Nat.reduceEqDiff, Nat.reduceAdd, Nat.reduceMul, Nat.reduceSub, Nat.reduceLeDiff, Int.reduceToNat, Int.reduceNeg, Int.reduceLT, Int.reduceLE, Int.reduceEq, reduceCtorEq]; rfl, rfl⟩ ?_
  rintro kn fr' J A R hA hs hg hR ⟨i, rfl, hi, f5, rfl⟩
  have s0 := hg 0 (by decide)
  have s1 := hg 1 (by decide)
  simp only [Fr.get_put, Fr.get_init, List.getD_cons_zero, List.getD_cons_succ, Nat.reduceEqDiff, if_true, if_false] at s0 s1
  refine wx_sound hT _ ?_
  by_cases hlt : i < l.length
  rotate_left
  · have i1 : ¬ (i : Int) < l.length := by omega
    repeat' (first | simp only [go_sem, Nat.reduceLT, Nat.reduceEqDiff, Nat.reduceAdd, Nat.reduceMul, Nat.reduceSub, Nat.reduceLeDiff, Int.reduceToNat, Int.reduceNeg, Int.reduceLT, Int.reduceLE, Int.reduceEq, reduceCtorEq, Int.natCast_zero, Int.natCast_one, Int.cast_ofNat_Int, Bool.not_not, false_eq_decide, true_eq_decide, hread0, hreadk, read_cons0, read_consk, astore_h0, astore_hk, hget0, hgetk, hset0, hsetk, hlen, hcat, Nat.add_assoc, Nat.add_zero, Nat.zero_add, List.length_append, and_true, true_and, AV.flat, *, -hK, -hlt] | with_reducible refine IfB_dec (fun h => ?_) (fun h => ?_) | with_reducible refine Guard_dec (fun h => ?_) (fun h => ?_) | with_reducible refine Guard_ndec (fun h => ?_) (fun h => ?_) | with_reducible refine Guard_not (fun h => ?_) (fun h => ?_) | with_reducible refine IfB_ndec (fun h => ?_) (fun h => ?_) | with_reducible refine IfB_not (fun h => ?_) (fun h => ?_) | with_reducible refine Guard_split (fun h => ?_) (fun h => ?_) | with_reducible refine IfB_split (fun h => ?_) (fun h => ?_))
    exact hK _ _ ⟨rfl, rfl⟩
  have i1 : (i : Int) < l.length := by omega
  have e3 := inc_id hlt (by omega)
  have e1 := at_enc (E := Enc.int .i64) (T := T) (k := .i64) se27 hlt rfl
  rw [int_cells] at e1
  have back : ∀ fr2, A fr2 → fr2.get 5 = .int .i64 ((i + 1 : Nat) : Int) → R fr2 J := fun fr2 ha q1 => hR fr2 J ha (l.length - (i + 1)) (by omega) ⟨i + 1, rfl, by omega, q1, rfl⟩
  clear hR
  generalize l[i] = x at *
  repeat' (first | simp only [go_sem, Nat.reduceLT, Nat.reduceEqDiff, Nat.reduceAdd, Nat.reduceMul, Nat.reduceSub, Nat.reduceLeDiff, Int.reduceToNat, Int.reduceNeg, Int.reduceLT, Int.reduceLE, Int.reduceEq, reduceCtorEq, Int.natCast_zero, Int.natCast_one, Int.cast_ofNat_Int, Bool.not_not, false_eq_decide, true_eq_decide, hread0, hreadk, read_cons0, read_consk, astore_h0, astore_hk, hget0, hgetk, hset0, hsetk, hlen, hcat, Nat.add_assoc, Nat.add_zero, Nat.zero_add, List.length_append, and_true, true_and, AV.flat, *, -hK, -hlt, -back] | with_reducible refine IfB_dec (fun h => ?_) (fun h => ?_) | with_reducible refine Guard_dec (fun h => ?_) (fun h => ?_) | with_reducible refine Guard_ndec (fun h => ?_) (fun h => ?_) | with_reducible refine Guard_not (fun h => ?_) (fun h => ?_) | with_reducible refine IfB_ndec (fun h => ?_) (fun h => ?_) | with_reducible refine IfB_not (fun h => ?_) (fun h => ?_) | with_reducible refine Guard_split (fun h => ?_) (fun h => ?_) | with_reducible refine IfB_split (fun h => ?_) (fun h => ?_))
  refine WX_rows hT hmix [(0, none), (1, none), (2, none), (3, none), (4, none), (5, none), (6, none), (7, none), (8, none)] (by kernel_rfl) ?_
  repeat' (first | simp only [go_sem, Nat.reduceLT, Nat.reduceEqDiff, Nat.reduceAdd, Nat.reduceMul, Nat.reduceSub, Nat.reduceLeDiff, Int.reduceToNat, Int.reduceNeg, Int.reduceLT, Int.reduceLE, Int.reduceEq, reduceCtorEq, Int.natCast_zero, Int.natCast_one, Int.cast_ofNat_Int, Bool.not_not, false_eq_decide, true_eq_decide, hread0, hreadk, read_cons0, read_consk, astore_h0, astore_hk, hget0, hgetk, hset0, hsetk, hlen, hcat, Nat.add_assoc, Nat.add_zero, Nat.zero_add, List.length_append, and_true, true_and, AV.flat, *, -hK, -hlt, -back] | with_reducible refine IfB_dec (fun h => ?_) (fun h => ?_) | with_reducible refine Guard_dec (fun h => ?_) (fun h => ?_) | with_reducible refine Guard_ndec (fun h => ?_) (fun h => ?_) | with_reducible refine Guard_not (fun h => ?_) (fun h => ?_) | with_reducible refine IfB_ndec (fun h => ?_) (fun h => ?_) | with_reducible refine IfB_not (fun h => ?_) (fun h => ?_) | with_reducible refine Guard_split (fun h => ?_) (fun h => ?_) | with_reducible refine IfB_split (fun h => ?_) (fun h => ?_))
  exact back _ (by (repeat (first | exact hs | refine hA _ _ _ (by decide) ?_))) (by simp only [go_sem, Nat.reduceLT, Nat.reduceEqDiff, Nat.reduceAdd, Nat.reduceMul, Nat.reduceSub, Nat.reduceLeDiff, Int.reduceToNat, Int.reduceNeg, Int.reduceLT, Int.reduceLE, Int.reduceEq, reduceCtorEq])
open Go Go.Proofs Go.Proofs.PI
theorem sameQ_spec (q : Que) (hb : qFit q.bx) (H : Heap) : WC Try.prog 23 [q.av, q.av] H fun r H' => r = .bool true ∧ H' = H := by
  refine WC_val fun K hK => ?_
  obtain ⟨nx, bs⟩ := q
  simp only at hb
  obtain ⟨hb1, hb2⟩ := hb
  unfold Que.av
  simp only
  refine WC_of_body hT Try.func23 rfl (by simp [Try.f23]) (by simp [Try.f23]) (wx_sound hT _ ?_)
  simp only [Try.f23]
  repeat' (first | simp only [go_sem, Nat.reduceLT, Nat.reduceEqDiff, Nat.reduceAdd, Nat.reduceMul, Nat.reduceSub, Nat.reduceLeDiff, Int.reduceToNat, Int.reduceNeg, Int.reduceLT, Int.reduceLE, Int.reduceEq, reduceCtorEq, Int.natCast_zero, Int.natCast_one, Int.cast_ofNat_Int, Bool.not_not, false_eq_decide, true_eq_decide, hread0, hreadk, read_cons0, read_consk, astore_h0, astore_hk, hget0, hgetk, hset0, hsetk, hlen, hcat, Nat.add_assoc, Nat.add_zero, Nat.zero_add, List.length_append, and_true, true_and, AV.flat, *, -hK, -hb2] | with_reducible refine IfB_dec (fun h => ?_) (fun h => ?_) | with_reducible refine Guard_dec (fun h => ?_) (fun h => ?_) | with_reducible refine Guard_ndec (fun h => ?_) (fun h => ?_) | with_reducible refine Guard_not (fun h => ?_) (fun h => ?_) | with_reducible refine IfB_ndec (fun h => ?_) (fun h => ?_) | with_reducible refine IfB_not (fun h => ?_) (fun h => ?_) | with_reducible refine Guard_split (fun h => ?_) (fun h => ?_) | with_reducible refine IfB_split (fun h => ?_) (fun h => ?_))
  have kG : Keep none H (H ++ [(⟨[.int .i64 nx, boxE.lst bs], 0, .full⟩ : Blk), (⟨[.int .i64 nx, boxE.lst bs], 0, .full⟩ : Blk)]) := Keep.app _ _ _
  have g0 : (H ++ [(⟨[.int .i64 nx, boxE.lst bs], 0, .full⟩ : Blk), (⟨[.int .i64 nx, boxE.lst bs], 0, .full⟩ : Blk)])[H.length]? = some ⟨[.int .i64 nx, boxE.lst bs], 0, .full⟩ := by rw [hget0]; rfl
  have g1 : (H ++ [(⟨[.int .i64 nx, boxE.lst bs], 0, .full⟩ : Blk), (⟨[.int .i64 nx, boxE.lst bs], 0, .full⟩ : Blk)])[H.length + 1]? = some ⟨[.int .i64 nx, boxE.lst bs], 0, .full⟩ := by rw [hgetk]; rfl
  generalize (H ++ [(⟨[.int .i64 nx, boxE.lst bs], 0, .full⟩ : Blk), (⟨[.int .i64 nx, boxE.lst bs], 0, .full⟩ : Blk)] : Heap) = G at *
  refine WX_loopS [2, 3] (fun kn fr' J => ∃ i : Nat, kn = bs.length - i ∧ i ≤ bs.length ∧ fr'.get 5 = .int .i64 i ∧ J = G) bs.length ⟨0, rfl, by omega, by simp only [go_sem, Nat.reduceLT, Nat.reduceEqDiff, Nat.reduceAdd, Nat.reduceMul, Nat.reduceSub, Nat.reduceLeDiff, Int.reduceToNat, Int.reduceNeg, Int.reduceLT, Int.reduceLE, Int.reduceEq, reduceCtorEq]; rfl, rfl⟩ ?_
  rintro kn fr' J A R hA hs hg hR ⟨i, rfl, hi, f5, rfl⟩
  have s2 := hg 2 (by decide)
  have s3 := hg 3 (by decide)
  simp only [Fr.get_put, Fr.get_init, List.getD_cons_zero, List.getD_cons_succ, Nat.reduceEqDiff, if_true, if_false] at s2 s3
  refine wx_sound hT _ ?_
  by_cases hlt : i < bs.length
  rotate_left
  · have i1 : ¬ (i : Int) < bs.length := by omega
    repeat' (first | simp only [go_sem, Nat.reduceLT, Nat.reduceEqDiff, Nat.reduceAdd, Nat.reduceMul, Nat.reduceSub, Nat.reduceLeDiff, Int.reduceToNat, Int.reduceNeg, Int.reduceLT, Int.reduceLE, Int.reduceEq, reduceCtorEq, Int.natCast_zero, Int.natCast_one, Int.cast_ofNat_Int, Bool.not_not, false_eq_decide, true_eq_decide, hread0, hreadk, read_cons0, read_consk, astore_h0, astore_hk, hget0, hgetk, hset0, hsetk, hlen, hcat, Nat.add_assoc, Nat.add_zero, Nat.zero_add, List.length_append, and_true, true_and, AV.flat, g0, get_app g0, read_get g0, read_app g0, g1, get_app g1, read_get g1, read_app g1, *, -hK, -hlt, -kG, -hb2] | with_reducible refine IfB_dec (fun h => ?_) (fun h => ?_) | with_reducible refine Guard_dec (fun h => ?_) (fun h => ?_) | with_reducible refine Guard_ndec (fun h => ?_) (fun h => ?_) | with_reducible refine Guard_not (fun h => ?_) (fun h => ?_) | with_reducible refine IfB_ndec (fun h => ?_) (fun h => ?_) | with_reducible refine IfB_not (fun h => ?_) (fun h => ?_) | with_reducible refine Guard_split (fun h => ?_) (fun h => ?_) | with_reducible refine IfB_split (fun h => ?_) (fun h => ?_))
    exact hK _ _ (.bool _) kG
  have i1 : (i : Int) < bs.length := by omega
  have e3 := inc_id hlt (by omega)
  have e1 := at_enc (E := boxE) (T := T) (k := .i64) se22 hlt rfl
  rw [boxE_cells] at e1
  obtain ⟨hl1, hl2⟩ := hb2 _ (List.getElem_mem hlt)
  have back : ∀ fr2, A fr2 → fr2.get 5 = .int .i64 ((i + 1 : Nat) : Int) → R fr2 J := fun fr2 ha q1 => hR fr2 J ha (bs.length - (i + 1)) (by omega) ⟨i + 1, rfl, by omega, q1, rfl⟩
  clear hR
  generalize bs[i] = l at *
  repeat' (first | simp only [go_sem, Nat.reduceLT, Nat.reduceEqDiff, Nat.reduceAdd, Nat.reduceMul, Nat.reduceSub, Nat.reduceLeDiff, Int.reduceToNat, Int.reduceNeg, Int.reduceLT, Int.reduceLE, Int.reduceEq, reduceCtorEq, Int.natCast_zero, Int.natCast_one, Int.cast_ofNat_Int, Bool.not_not, false_eq_decide, true_eq_decide, hread0, hreadk, read_cons0, read_consk, astore_h0, astore_hk, hget0, hgetk, hset0, hsetk, hlen, hcat, Nat.add_assoc, Nat.add_zero, Nat.zero_add, List.length_append, and_true, true_and, AV.flat, g0, get_app g0, read_get g0, read_app g0, g1, get_app g1, read_get g1, read_app g1, *, -hK, -hlt, -kG, -hb2, -back, -hl1, -hl2] | with_reducible refine IfB_dec (fun h => ?_) (fun h => ?_) | with_reducible refine Guard_dec (fun h => ?_) (fun h => ?_) | with_reducible refine Guard_ndec (fun h => ?_) (fun h => ?_) | with_reducible refine Guard_not (fun h => ?_) (fun h => ?_) | with_reducible refine IfB_ndec (fun h => ?_) (fun h => ?_) | with_reducible refine IfB_not (fun h => ?_) (fun h => ?_) | with_reducible refine Guard_split (fun h => ?_) (fun h => ?_) | with_reducible refine IfB_split (fun h => ?_) (fun h => ?_))
  refine WX_rows hT hmix [(0, none), (1, none), (2, none), (3, none), (4, none), (5, none), (6, none), (7, none), (8, none), (9, none), (10, none), (11, none), (12, none)] (by kernel_rfl) ?_
  repeat' (first | simp only [go_sem, Nat.reduceLT, Nat.reduceEqDiff, Nat.reduceAdd, Nat.reduceMul, Nat.reduceSub, Nat.reduceLeDiff, Int.reduceToNat, Int.reduceNeg, Int.reduceLT, Int.reduceLE, Int.reduceEq, reduceCtorEq, Int.natCast_zero, Int.natCast_one, Int.cast_ofNat_Int, Bool.not_not, false_eq_decide, true_eq_decide, hread0, hreadk, read_cons0, read_consk, astore_h0, astore_hk, hget0, hgetk, hset0, hsetk, hlen, hcat, Nat.add_assoc, Nat.add_zero, Nat.zero_add, List.length_append, and_true, true_and, AV.flat, g0, get_app g0, read_get g0, read_app g0, g1, get_app g1, read_get g1, read_app g1, *, -hK, -hlt, -kG, -hb2, -back, -hl1, -hl2] | with_reducible refine IfB_dec (fun h => ?_) (fun h => ?_) | with_reducible refine Guard_dec (fun h => ?_) (fun h => ?_) | with_reducible refine Guard_ndec (fun h => ?_) (fun h => ?_) | with_reducible refine Guard_not (fun h => ?_) (fun h => ?_) | with_reducible refine IfB_ndec (fun h => ?_) (fun h => ?_) | with_reducible refine IfB_not (fun h => ?_) (fun h => ?_) | with_reducible refine Guard_split (fun h => ?_) (fun h => ?_) | with_reducible refine IfB_split (fun h => ?_) (fun h => ?_))
  have hA0 := hA
  have o2 := s2
  have o3 := s3
  refine WX_loopS [2, 3, 5] (fun kn fr2 J2 => ∃ z : Nat, kn = l.length - z ∧ z ≤ l.length ∧ fr2.get 6 = .int .i64 z ∧ J2 = J ∧ A fr2) l.length ⟨0, rfl, by omega, by simp only [go_sem, Nat.reduceLT, Nat.reduceEqDiff, Nat.reduceAdd, Nat.reduceMul, Nat.reduceSub, Nat.reduceLeDiff, Int.reduceToNat, Int.reduceNeg, Int.reduceLT, Int.reduceLE, Int.reduceEq, reduceCtorEq]; rfl, rfl, by (repeat (first | exact hs | refine hA _ _ _ (by decide) ?_))⟩ ?_
  clear hg hs hA s2 s3
  rintro kn fr2 J2 A2 R2 hA hs hg hR2 ⟨z, rfl, hz, f6, rfl, hAf⟩
  have s2 := hg 2 (by decide)
  have s3 := hg 3 (by decide)
  have s5 := hg 5 (by decide)
  simp only [Fr.get_put, Fr.get_init, List.getD_cons_zero, List.getD_cons_succ, Nat.reduceEqDiff, if_true, if_false] at s2 s3 s5
  rw [o2] at s2
  rw [o3] at s3
  rw [f5] at s5
  clear o2 o3 f5
  refine wx_sound hT _ ?_
  by_cases hlz : z < l.length
  rotate_left
  · have i2 : ¬ (z : Int) < l.length := by omega
    repeat' (first | simp only [go_sem, Nat.reduceLT, Nat.reduceEqDiff, Nat.reduceAdd, Nat.reduceMul, Nat.reduceSub, Nat.reduceLeDiff, Int.reduceToNat, Int.reduceNeg, Int.reduceLT, Int.reduceLE, Int.reduceEq, reduceCtorEq, Int.natCast_zero, Int.natCast_one, Int.cast_ofNat_Int, Bool.not_not, false_eq_decide, true_eq_decide, hread0, hreadk, read_cons0, read_consk, astore_h0, astore_hk, hget0, hgetk, hset0, hsetk, hlen, hcat, Nat.add_assoc, Nat.add_zero, Nat.zero_add, List.length_append, and_true, true_and, AV.flat, g0, get_app g0, read_get g0, read_app g0, g1, get_app g1, read_get g1, read_app g1, *, -hK, -hlt, -kG, -hb2, -back, -hl1, -hl2, -hlz] | with_reducible refine IfB_dec (fun h => ?_) (fun h => ?_) | with_reducible refine Guard_dec (fun h => ?_) (fun h => ?_) | with_reducible refine Guard_ndec (fun h => ?_) (fun h => ?_) | with_reducible refine Guard_not (fun h => ?_) (fun h => ?_) | with_reducible refine IfB_ndec (fun h => ?_) (fun h => ?_) | with_reducible refine IfB_not (fun h => ?_) (fun h => ?_) | with_reducible refine Guard_split (fun h => ?_) (fun h => ?_) | with_reducible refine IfB_split (fun h => ?_) (fun h => ?_))
    exact back _ (by repeat (first | exact hAf | refine hA0 _ _ _ (by decide) ?_)) (by simp only [go_sem, Nat.reduceLT, Nat.reduceEqDiff, Nat.reduceAdd, Nat.reduceMul, Nat.reduceSub, Nat.reduceLeDiff, Int.reduceToNat, Int.reduceNeg, Int.reduceLT, Int.reduceLE, Int.reduceEq, reduceCtorEq])
  have i2 : (z : Int) < l.length := by omega
  have e4 := inc_id hlz (by omega)
  have e2 := at_enc (E := tktE) (T := T) (k := .i64) se31 hlz rfl
  rw [tktE_cells] at e2
  have sm := fun J => same12_spec l[z] l[z] (hl2 _ (List.getElem_mem hlz)).1 J
  rw [decide_eq_true rfl] at sm
  have back2 : ∀ fr3, A2 fr3 → fr3.get 6 = .int .i64 ((z + 1 : Nat) : Int) → A fr3 → R2 fr3 J2 := fun fr3 ha q1 q2 => hR2 fr3 J2 ha (l.length - (z + 1)) (by omega) ⟨z + 1, rfl, by omega, q1, rfl, q2⟩
  clear hR2
  generalize l[z] = x at *
  unfold Tkt.av at sm
  repeat' (first | simp only [go_sem, Nat.reduceLT, Nat.reduceEqDiff, Nat.reduceAdd, Nat.reduceMul, Nat.reduceSub, Nat.reduceLeDiff, Int.reduceToNat, Int.reduceNeg, Int.reduceLT, Int.reduceLE, Int.reduceEq, reduceCtorEq, Int.natCast_zero, Int.natCast_one, Int.cast_ofNat_Int, Bool.not_not, false_eq_decide, true_eq_decide, hread0, hreadk, read_cons0, read_consk, astore_h0, astore_hk, hget0, hgetk, hset0, hsetk, hlen, hcat, Nat.add_assoc, Nat.add_zero, Nat.zero_add, List.length_append, and_true, true_and, AV.flat, g0, get_app g0, read_get g0, read_app g0, g1, get_app g1, read_get g1, read_app g1, *, -hK, -hlt, -kG, -hb2, -back, -back2, -hl1, -hl2, -hlz, -sm] | with_reducible refine IfB_dec (fun h => ?_) (fun h => ?_) | with_reducible refine Guard_dec (fun h => ?_) (fun h => ?_) | with_reducible refine Guard_ndec (fun h => ?_) (fun h => ?_) | with_reducible refine Guard_not (fun h => ?_) (fun h => ?_) | with_reducible refine IfB_ndec (fun h => ?_) (fun h => ?_) | with_reducible refine IfB_not (fun h => ?_) (fun h => ?_) | with_reducible refine Guard_split (fun h => ?_) (fun h => ?_) | with_reducible refine IfB_split (fun h => ?_) (fun h => ?_))
  refine WX_rows hT hmix [(0, none), (1, none), (2, none), (3, none), (4, none), (5, none), (6, none), (7, none), (8, none), (9, none), (10, none), (11, none), (12, none), (13, none), (14, none), (15, none), (16, some [true, true, true, true, true, true, true, true, true, true, true, true, true, true, true, true]), (17, none)] (by kernel_rfl) ?_
  repeat' (first | simp only [go_sem, Nat.reduceLT, Nat.reduceEqDiff, Nat.reduceAdd, Nat.reduceMul, Nat.reduceSub, Nat.reduceLeDiff, Int.reduceToNat, Int.reduceNeg, Int.reduceLT, Int.reduceLE, Int.reduceEq, reduceCtorEq, Int.natCast_zero, Int.natCast_one, Int.cast_ofNat_Int, Bool.not_not, false_eq_decide, true_eq_decide, hread0, hreadk, read_cons0, read_consk, astore_h0, astore_hk, hget0, hgetk, hset0, hsetk, hlen, hcat, Nat.add_assoc, Nat.add_zero, Nat.zero_add, List.length_append, and_true, true_and, AV.flat, g0, get_app g0, read_get g0, read_app g0, g1, get_app g1, read_get g1, read_app g1, *, -hK, -hlt, -kG, -hb2, -back, -back2, -hl1, -hl2, -hlz, -sm] | refine WC.call (sm _) ?_ | with_reducible refine IfB_dec (fun h => ?_) (fun h => ?_) | with_reducible refine Guard_dec (fun h => ?_) (fun h => ?_) | with_reducible refine Guard_ndec (fun h => ?_) (fun h => ?_) | with_reducible refine Guard_not (fun h => ?_) (fun h => ?_) | with_reducible refine IfB_ndec (fun h => ?_) (fun h => ?_) | with_reducible refine IfB_not (fun h => ?_) (fun h => ?_) | with_reducible refine Guard_split (fun h => ?_) (fun h => ?_) | with_reducible refine IfB_split (fun h => ?_) (fun h => ?_))
  exact back2 _ (by (repeat (first | exact hs | refine hA _ _ _ (by decide) ?_))) (by simp only [go_sem, Nat.reduceLT, Nat.reduceEqDiff, Nat.reduceAdd, Nat.reduceMul, Nat.reduceSub, Nat.reduceLeDiff, Int.reduceToNat, Int.reduceNeg, Int.reduceLT, Int.reduceLE, Int.reduceEq, reduceCtorEq]) (by repeat (first | exact hAf | refine hA0 _ _ _ (by decide) ?_))
open Go Go.Proofs Go.Proofs.PI
def Tkt.csR (t : Tkt) (kv : AV) : List AV := [.int .i64 t.num, .int .u8 t.kind, .int .u8 t.cmd.kind, .int .i64 t.cmd.ten, kv, .str t.cmd.val, .int .u32 t.cmd.flags, .int .i64 t.cmd.for_, .int .u64 t.cmd.uniq, .int .u64 t.cmd.by_, .int .i64 t.ten, .int .i64 t.to]
theorem all2_refl {R : AV → AV → Prop} (h : ∀ a, R a a) : ∀ l : List AV, All2 R l l
  | [] => trivial
  | a :: l => ⟨h a, all2_refl h l⟩
/-- Boxes that were put one behind another. -/
structure BxW (m : Nat) (H : Heap) (wo : AV) (ps : List AV) (l : List (List Tkt)) : Prop where
  out : Own m H wo 1 ps
  len : ps.length = l.length
  el : ∀ (i : Nat) x t, ps[i]? = some x → l[i]? = some t → OwnE tktE m H x t ∧ ∀ b, x.blk = some b → wo.blk ≠ some b
  dis : ∀ (i j : Nat) x y b, i ≠ j → ps[i]? = some x → ps[j]? = some y → x.blk = some b → y.blk ≠ some b
section
variable {m : Nat} {H G : Heap} {wo : AV} {ps : List AV} {l : List (List Tkt)}
theorem BxW.nils (m : Nat) (H : Heap) : BxW m H .nils [] [] := ⟨.inl ⟨rfl, rfl⟩, rfl, fun i x t hx => by simp at hx, fun i j x y b _ hx => by simp at hx⟩
theorem BxW.same (o : BxW m H wo ps l) (h : ∀ b, m ≤ b → b < H.length → G[b]? = H[b]?) : BxW m G wo ps l :=
  ⟨own_same o.out fun b hb => h b (o.out.ge hb) (o.out.lt hb), o.len, fun i x t hx ht => ⟨own_same (o.el i x t hx ht).1 fun b hb => h b ((o.el i x t hx ht).1.ge hb) ((o.el i x t hx ht).1.lt hb), (o.el i x t hx ht).2⟩, o.dis⟩
theorem BxW.mono (o : BxW m H wo ps l) {m2 : Nat} (hm : m2 ≤ m) : BxW m2 H wo ps l :=
  ⟨Own.mono o.out hm, o.len, fun i x t hx ht => ⟨Own.mono (o.el i x t hx ht).1 hm, (o.el i x t hx ht).2⟩, o.dis⟩
theorem BxW.push (o : BxW m H wo ps l) {J2 J4 : Heap} {w wn : AV} {t : List Tkt} (h2 : ∀ b, b < H.length → J2[b]? = H[b]?) (hL : H.length ≤ J2.length) (ow : OwnE tktE m J2 w t) (hw : ∀ b, w.blk = some b → H.length ≤ b)
    (o' : Own m J4 wn 1 (ps ++ [w])) (k : Keep wo.blk J2 J4) (hn : ∀ b, wn.blk = some b → wo.blk = some b ∨ J2.length ≤ b) : BxW m J4 wn (ps ++ [w]) (l ++ [t]) := by
  have hlt : ∀ (i : Nat) x b, ps[i]? = some x → x.blk = some b → b < H.length ∧ wo.blk ≠ some b := fun i x b hx hb => by
    have hi : i < l.length := by rw [← o.len]; exact (List.getElem?_eq_some_iff.1 hx).1
    obtain ⟨e1, e2⟩ := o.el i x _ hx (List.getElem?_eq_getElem hi)
    exact ⟨e1.lt hb, e2 b hb⟩
  have hwo : ∀ b, wo.blk = some b → b < H.length := fun b hb => o.out.lt hb
  refine ⟨o', by rw [List.length_append, List.length_append, o.len]; rfl, fun i x u hx hu => ?_, fun i j x y b hne hx hy hb => ?_⟩
  · by_cases hi : i < ps.length
    · rw [List.getElem?_append_left hi] at hx
      rw [List.getElem?_append_left (by rw [← o.len]; exact hi)] at hu
      obtain ⟨e1, e2⟩ := o.el i x u hx hu
      refine ⟨own_same e1 fun b hb => ?_, fun b hb e => ?_⟩
      · rw [k.at_ b (Nat.lt_of_lt_of_le (e1.lt hb) hL) (e2 b hb), h2 b (e1.lt hb)]
      · rcases hn b e with h | h
        · exact e2 b hb h
        · have := e1.lt hb; omega
    · rw [List.getElem?_append_right (by omega)] at hx
      rw [List.getElem?_append_right (by rw [← o.len]; omega), ← o.len] at hu
      have h0 : i - ps.length = 0 := by
        have := (List.getElem?_eq_some_iff.1 hx).1
        simp only [List.length_cons, List.length_nil] at this; omega
      rw [h0] at hx hu
      cases hx; cases hu
      refine ⟨own_same ow fun b hb => k.at_ b (ow.lt hb) (fun e => by have := hw b hb; have := hwo b e; omega), fun b hb e => ?_⟩
      rcases hn b e with h | h
      · have := hw b hb; have := hwo b h; omega
      · have := ow.lt hb; omega
  · have hc : ∀ (i : Nat) x b, (ps ++ [w])[i]? = some x → x.blk = some b → (ps[i]? = some x ∧ b < H.length) ∨ (i = ps.length ∧ H.length ≤ b) := fun i x b hx hb => by
      by_cases hi : i < ps.length
      · rw [List.getElem?_append_left hi] at hx
        exact .inl ⟨hx, (hlt i x b hx hb).1⟩
      · rw [List.getElem?_append_right (by omega)] at hx
        have h0 : i - ps.length = 0 := by
          have := (List.getElem?_eq_some_iff.1 hx).1
          simp only [List.length_cons, List.length_nil] at this; omega
        rw [h0] at hx
        cases hx
        exact .inr ⟨by omega, hw b hb⟩
    intro e
    rcases hc i x b hx hb with ⟨h1, h3⟩ | ⟨h1, h3⟩ <;> rcases hc j y b hy e with ⟨h4, h5⟩ | ⟨h4, h5⟩
    · exact o.dis i j x y b hne h1 h4 hb e
    · omega
    · omega
    · omega
theorem BxW.toO (o : BxW m H wo ps l) (hl : l ≠ []) : ∃ p, wo = .sl p 0 l.length none ∧ BxO m H p ps l := by
  have hp : ps ≠ [] := fun e => hl (List.eq_nil_of_length_eq_zero (by rw [← o.len, e]; rfl))
  have hout := o.out
  rcases hout with ⟨rfl, e⟩ | ⟨p, n, st, rest, rfl, h1, h2, h3, h4⟩
  · exact absurd e hp
  · refine ⟨p, by rw [← o.len]; congr 1; omega, ⟨o.len, h1, ⟨st, rest, h2, h3⟩, fun i x t hx ht => ⟨(o.el i x t hx ht).1, fun e => (o.el i x t hx ht).2 p e rfl⟩, o.dis⟩⟩
theorem BxW.thaw (o : BxW m H wo ps l) : Thaw m H wo (boxE.lst l) := by
  by_cases hl : l = []
  · subst hl
    have hp : ps = [] := List.eq_nil_of_length_eq_zero (by rw [o.len]; rfl)
    have hout := o.out
    subst hp
    exact Thaw.own (n := 0) hout (fun a ha => by cases ha) rfl (by decide)
  · obtain ⟨p, rfl, h⟩ := o.toO hl
    exact h.thaw
end
theorem twin12_own (q : Que) (hb : qFit q.bx) (H : Heap) :
    WC Try.prog 16 [q.av] H fun r H' => (∃ wo ps, r = .agg [.int .i64 q.next, wo] ∧ BxW H.length H' wo ps q.bx) ∧ Keep none H H' := by
  refine WC_of_K fun K hK => ?_
  obtain ⟨nx, bs⟩ := q
  unfold Que.av
  simp only at hb hK ⊢
  obtain ⟨h4, hb⟩ := hb
  refine WC_of_body hT Try.func16 rfl (by simp [Try.f16]) (by simp [Try.f16]) (wx_sound hT _ ?_)
  simp only [Try.f16]
  repeat' (first | simp only [go_sem, Nat.reduceLT, Nat.reduceEqDiff, Nat.reduceAdd, Nat.reduceMul, Nat.reduceSub, Nat.reduceLeDiff, Int.reduceToNat, Int.reduceNeg, Int.reduceLT, Int.reduceLE, Int.reduceEq, reduceCtorEq, Int.natCast_zero, Int.natCast_one, Int.cast_ofNat_Int, Bool.not_not, false_eq_decide, true_eq_decide, hread0, hreadk, read_cons0, read_consk, astore_h0, astore_hk, hget0, hgetk, hset0, hsetk, hlen, hcat, Nat.add_assoc, Nat.add_zero, Nat.zero_add, List.length_append, and_true, true_and, AV.flat, *, -hK, -hb] | with_reducible refine IfB_dec (fun h => ?_) (fun h => ?_) | with_reducible refine Guard_dec (fun h => ?_) (fun h => ?_) | with_reducible refine Guard_ndec (fun h => ?_) (fun h => ?_) | with_reducible refine Guard_not (fun h => ?_) (fun h => ?_) | with_reducible refine IfB_ndec (fun h => ?_) (fun h => ?_) | with_reducible refine IfB_not (fun h => ?_) (fun h => ?_) | with_reducible refine Guard_split (fun h => ?_) (fun h => ?_) | with_reducible refine IfB_split (fun h => ?_) (fun h => ?_))
  have kG : Keep none H (H ++ [(⟨[.int .i64 nx, boxE.lst bs], 0, .full⟩ : Blk), (⟨[.int .i64 0, .nils], 0, .full⟩ : Blk), (⟨[.int .i64 nx, .nils], 0, .full⟩ : Blk)]) := Keep.app _ _ _
  have g0 : (H ++ [(⟨[.int .i64 nx, boxE.lst bs], 0, .full⟩ : Blk), (⟨[.int .i64 0, .nils], 0, .full⟩ : Blk), (⟨[.int .i64 nx, .nils], 0, .full⟩ : Blk)])[H.length]? = some ⟨[.int .i64 nx, boxE.lst bs], 0, .full⟩ := by rw [hget0]; rfl
  have g1 : (H ++ [(⟨[.int .i64 nx, boxE.lst bs], 0, .full⟩ : Blk), (⟨[.int .i64 0, .nils], 0, .full⟩ : Blk), (⟨[.int .i64 nx, .nils], 0, .full⟩ : Blk)])[H.length + 1]? = some ⟨[.int .i64 0, .nils], 0, .full⟩ := by rw [hgetk]; rfl
  have g2 : (H ++ [(⟨[.int .i64 nx, boxE.lst bs], 0, .full⟩ : Blk), (⟨[.int .i64 0, .nils], 0, .full⟩ : Blk), (⟨[.int .i64 nx, .nils], 0, .full⟩ : Blk)])[H.length + 2]? = some ⟨[.int .i64 nx, .nils], 0, .full⟩ := by rw [hgetk]; rfl
  generalize (H ++ [(⟨[.int .i64 nx, boxE.lst bs], 0, .full⟩ : Blk), (⟨[.int .i64 0, .nils], 0, .full⟩ : Blk), (⟨[.int .i64 nx, .nils], 0, .full⟩ : Blk)] : Heap) = G at *
  refine WX_loopS [1, 2, 3] (fun kn fr' J => ∃ (i : Nat) (wo : AV) (ps : List AV), kn = bs.length - i ∧ i ≤ bs.length ∧ fr'.get 4 = .int .i64 i ∧ Keep none H J ∧ J[H.length]? = some (⟨[.int .i64 nx, boxE.lst bs], 0, .full⟩ : Blk) ∧ J[H.length + 1]? = some (⟨[.int .i64 0, .nils], 0, .full⟩ : Blk) ∧ J[H.length + 2]? = some (⟨[.int .i64 nx, wo], 0, .full⟩ : Blk) ∧ BxW (H.length + 3) J wo ps (bs.take i)) bs.length ⟨0, .nils, [], rfl, by omega, by simp only [go_sem, Nat.reduceLT, Nat.reduceEqDiff, Nat.reduceAdd, Nat.reduceMul, Nat.reduceSub, Nat.reduceLeDiff, Int.reduceToNat, Int.reduceNeg, Int.reduceLT, Int.reduceLE, Int.reduceEq, reduceCtorEq]; rfl, kG, g0, g1, g2, BxW.nils _ _⟩ ?_
  clear kG g0 g1 g2
  rintro kn fr' J A R hA hs hg hR ⟨i, wo, ps, rfl, hi, f4, kJ, g0, g1, g2, W⟩
  have s1 := hg 1 (by decide)
  have s2 := hg 2 (by decide)
  have s3 := hg 3 (by decide)
  simp only [Fr.get_put, Fr.get_init, List.getD_cons_zero, List.getD_cons_succ, Nat.reduceEqDiff, if_true, if_false] at s1 s2 s3
  refine wx_sound hT _ ?_
  have hwo := W.out.one
  have hJl := (List.getElem?_eq_some_iff.1 g2).1
  by_cases hlt : i < bs.length
  rotate_left
  · have i5 : ¬ (i : Int) < bs.length := by omega
    rw [List.take_of_length_le (by omega)] at W
    have W2 : BxW H.length (List.set J (H.length + 1) ⟨[.int .i64 nx, wo], 0, .full⟩) wo ps bs := (W.same fun b h1 h2 => List.getElem?_set_ne (by omega)).mono (by omega)
    have kF : Keep none H (List.set J (H.length + 1) ⟨[.int .i64 nx, wo], 0, .full⟩) := ⟨by rw [List.length_set]; omega, fun b hb _ => by rw [List.getElem?_set_ne (by omega)]; exact kJ.at_ b hb (by simp)⟩
    repeat' (first | simp only [go_sem, Nat.reduceLT, Nat.reduceEqDiff, Nat.reduceAdd, Nat.reduceMul, Nat.reduceSub, Nat.reduceLeDiff, Int.reduceToNat, Int.reduceNeg, Int.reduceLT, Int.reduceLE, Int.reduceEq, reduceCtorEq, Int.natCast_zero, Int.natCast_one, Int.cast_ofNat_Int, Bool.not_not, false_eq_decide, true_eq_decide, hread0, hreadk, read_cons0, read_consk, astore_h0, astore_hk, hget0, hgetk, hset0, hsetk, hlen, hcat, Nat.add_assoc, Nat.add_zero, Nat.zero_add, List.length_append, and_true, true_and, AV.flat, g0, get_app g0, read_get g0, read_app g0, g2, get_app g2, read_get g2, read_app g2, g1, get_app g1, read_get g1, read_app g1, astore_get g1, astore_app g1, get_set g1, get_set_app g1, read_set g1, read_set_app g1, astore_set g1, astore_set_app g1, List.set_set, hget0s, hgetks, hread0s, hreadks, List.length_set, hwo, one_solid hwo, one_cells hwo, *, -hK, -hb, -W, -kJ, -hlt, -hJl, -W2, -kF] | with_reducible refine IfB_dec (fun h => ?_) (fun h => ?_) | with_reducible refine Guard_dec (fun h => ?_) (fun h => ?_) | with_reducible refine Guard_ndec (fun h => ?_) (fun h => ?_) | with_reducible refine Guard_not (fun h => ?_) (fun h => ?_) | with_reducible refine IfB_ndec (fun h => ?_) (fun h => ?_) | with_reducible refine IfB_not (fun h => ?_) (fun h => ?_) | with_reducible refine Guard_split (fun h => ?_) (fun h => ?_) | with_reducible refine IfB_split (fun h => ?_) (fun h => ?_))
    exact hK _ _ ⟨⟨wo, ps, rfl, W2⟩, kF⟩
  have i5 : (i : Int) < bs.length := by omega
  have e3 := inc_id hlt (by omega)
  have e1 := at_enc (E := boxE) (T := T) (k := .i64) se22 hlt rfl
  rw [boxE_cells] at e1
  obtain ⟨hl1, hl2⟩ := hb _ (List.getElem_mem hlt)
  have hts := List.take_succ_eq_append_getElem hlt
  have hpl : ps.length = i := by rw [W.len, List.length_take]; omega
  have back : ∀ fr2 J2 wo2 ps2, A fr2 → fr2.get 4 = .int .i64 ((i + 1 : Nat) : Int) → Keep none H J2 → J2[H.length]? = some (⟨[.int .i64 nx, boxE.lst bs], 0, .full⟩ : Blk) → J2[H.length + 1]? = some (⟨[.int .i64 0, .nils], 0, .full⟩ : Blk) → J2[H.length + 2]? = some (⟨[.int .i64 nx, wo2], 0, .full⟩ : Blk) → BxW (H.length + 3) J2 wo2 ps2 (bs.take i ++ [bs[i]]) → R fr2 J2 := fun fr2 J2 wo2 ps2 ha q1 q2 q3 q4 q5 q6 => hR fr2 J2 ha (bs.length - (i + 1)) (by omega) ⟨i + 1, wo2, ps2, rfl, by omega, q1, q2, q3, q4, q5, by rw [hts]; exact q6⟩
  clear hR hts
  generalize bs[i] = l at *
  generalize bs.take i = lb at *
  repeat' (first | simp only [go_sem, Nat.reduceLT, Nat.reduceEqDiff, Nat.reduceAdd, Nat.reduceMul, Nat.reduceSub, Nat.reduceLeDiff, Int.reduceToNat, Int.reduceNeg, Int.reduceLT, Int.reduceLE, Int.reduceEq, reduceCtorEq, Int.natCast_zero, Int.natCast_one, Int.cast_ofNat_Int, Bool.not_not, false_eq_decide, true_eq_decide, hread0, hreadk, read_cons0, read_consk, astore_h0, astore_hk, hget0, hgetk, hset0, hsetk, hlen, hcat, Nat.add_assoc, Nat.add_zero, Nat.zero_add, List.length_append, and_true, true_and, AV.flat, g0, get_app g0, read_get g0, read_app g0, g2, get_app g2, read_get g2, read_app g2, hwo, one_solid hwo, one_cells hwo, *, -hK, -g1, -hb, -W, -kJ, -hlt, -hJl, -back, -hl1, -hl2, -hpl] | with_reducible refine IfB_dec (fun h => ?_) (fun h => ?_) | with_reducible refine Guard_dec (fun h => ?_) (fun h => ?_) | with_reducible refine Guard_ndec (fun h => ?_) (fun h => ?_) | with_reducible refine Guard_not (fun h => ?_) (fun h => ?_) | with_reducible refine IfB_ndec (fun h => ?_) (fun h => ?_) | with_reducible refine IfB_not (fun h => ?_) (fun h => ?_) | with_reducible refine Guard_split (fun h => ?_) (fun h => ?_) | with_reducible refine IfB_split (fun h => ?_) (fun h => ?_))
  have hA0 := hA
  have o1 := s1
  have o2 := s2
  have o3 := s3
  refine WX_loopS [1, 2, 3, 4] (fun kn fr2 J2 => ∃ (z : Nat) (w : AV), kn = l.length - z ∧ z ≤ l.length ∧ fr2.get 6 = .int .i64 z ∧ fr2.get 5 = w ∧ (∀ b, b < J.length → J2[b]? = J[b]?) ∧ J.length ≤ J2.length ∧ (∀ b, w.blk = some b → J.length ≤ b) ∧ (OwnE tktE (H.length + 3) J2 w (l.take z) ∨ ∃ l' t v, l.take z = l' ++ [t] ∧ Own (H.length + 3) J2 w 12 (tktE.row l' ++ t.csR v) ∧ OwnE Enc.str (H.length + 3) J2 v t.cmd.keys ∧ ∀ b, v.blk = some b → J.length ≤ b ∧ w.blk ≠ some b) ∧ A fr2) l.length ⟨0, .nils, rfl, by omega, by simp only [go_sem, Nat.reduceLT, Nat.reduceEqDiff, Nat.reduceAdd, Nat.reduceMul, Nat.reduceSub, Nat.reduceLeDiff, Int.reduceToNat, Int.reduceNeg, Int.reduceLT, Int.reduceLE, Int.reduceEq, reduceCtorEq]; rfl, by simp only [go_sem, Nat.reduceLT, Nat.reduceEqDiff, Nat.reduceAdd, Nat.reduceMul, Nat.reduceSub, Nat.reduceLeDiff, Int.reduceToNat, Int.reduceNeg, Int.reduceLT, Int.reduceLE, Int.reduceEq, reduceCtorEq], (fun _ _ => rfl), Nat.le_refl _, (fun b hb => by cases hb), .inl (OwnE.nils _ _ _), by (repeat (first | exact hs | refine hA _ _ _ (by decide) ?_))⟩ ?_
  clear hg hs hA s1 s2 s3
  rintro kn fr2 J2 A2 R2 hA hs hg hR2 ⟨z, w, rfl, hz, f6, f5, hlow, hJ2, hwL, hbx, hAf⟩
  have s1 := hg 1 (by decide)
  have s2 := hg 2 (by decide)
  have s3 := hg 3 (by decide)
  have s4 := hg 4 (by decide)
  simp only [Fr.get_put, Fr.get_init, List.getD_cons_zero, List.getD_cons_succ, Nat.reduceEqDiff, if_true, if_false] at s1 s2 s3 s4
  rw [o1] at s1
  rw [o2] at s2
  rw [o3] at s3
  rw [f4] at s4
  clear o1 o2 o3 f4
  have hgz : H.length + 3 ≤ J.length := by omega
  suffices hmain : ∀ J2 : Heap, (∀ b, b < J.length → J2[b]? = J[b]?) → J.length ≤ J2.length → OwnE tktE (H.length + 3) J2 w (l.take z) → WX Try.prog _ _ fr2 J2 _ by
    rcases hbx with ow | ⟨l', t, v, e, hr, hv, hvb⟩
    · exact hmain J2 hlow hJ2 ow
    · have hr0 := hr
      rcases hr with ⟨_, e0⟩ | ⟨q, n, st, rest, rfl, r1, r2, r3, r4⟩
      · exact absurd (congrArg List.length e0) (by rw [List.length_append]; show _ + 12 ≠ 0; omega)
      · refine WX_freeze (n := t.cmd.keys.length) hv (Enc.row_flat _) (Enc.row_length _) (by decide) r2 (fun e2 => (hvb q e2).2 rfl) (C := ⟨tktE.row l' ++ tktE.cells t ++ rest, 12, st⟩) rfl rfl ?_ fun G hl hq hk => ?_
        · refine All2.append (All2.append ?_ ?_) ?_
          · exact all2_refl (fun _ => .inl rfl) _
          · exact ⟨.inl rfl, .inl rfl, .inl rfl, .inl rfl, .inr ⟨rfl, rfl⟩, .inl rfl, .inl rfl, .inl rfl, .inl rfl, .inl rfl, .inl rfl, .inl rfl, trivial⟩
          · exact all2_refl (fun _ => .inl rfl) _
        · have hqb := hwL q rfl
          refine hmain G (fun b hb => ?_) (by omega) ?_
          · rw [hk b (fun e2 => by have := (hvb b e2).1; omega) (by omega)]; exact hlow b hb
          · rw [e]
            refine .inr ⟨q, n, st, rest, rfl, r1, ?_, r3, ?_⟩
            · rw [hq, Enc.row_append, Enc.row_one]; rfl
            · rw [Enc.row_append, Enc.row_one, List.length_append]
              rw [List.length_append] at r4
              exact r4
  clear hbx hlow hJ2 J2
  intro J2 hlow hJ2 ow
  refine wx_sound hT _ ?_
  have y0 : J2[H.length]? = some (⟨[.int .i64 nx, boxE.lst bs], 0, .full⟩ : Blk) := by rw [hlow _ (by omega)]; exact g0
  have y2 : J2[H.length + 2]? = some (⟨[.int .i64 nx, wo], 0, .full⟩ : Blk) := by rw [hlow _ (by omega)]; exact g2
  have hww := ow.one
  by_cases hlz : z < l.length
  rotate_left
  · have i6 : ¬ (z : Int) < l.length := by omega
    rw [List.take_of_length_le (by omega)] at ow
    repeat' (first | simp only [go_sem, Nat.reduceLT, Nat.reduceEqDiff, Nat.reduceAdd, Nat.reduceMul, Nat.reduceSub, Nat.reduceLeDiff, Int.reduceToNat, Int.reduceNeg, Int.reduceLT, Int.reduceLE, Int.reduceEq, reduceCtorEq, Int.natCast_zero, Int.natCast_one, Int.cast_ofNat_Int, Bool.not_not, false_eq_decide, true_eq_decide, hread0, hreadk, read_cons0, read_consk, astore_h0, astore_hk, hget0, hgetk, hset0, hsetk, hlen, hcat, Nat.add_assoc, Nat.add_zero, Nat.zero_add, List.length_append, and_true, true_and, AV.flat, y0, get_app y0, read_get y0, read_app y0, y2, get_app y2, read_get y2, read_app y2, hwo, one_solid hwo, one_cells hwo, hww, one_solid hww, one_cells hww, *, -hK, -g0, -g1, -g2, -hb, -W, -kJ, -hlt, -hJl, -back, -hl1, -hl2, -hlow, -hJ2, -hwL, -ow, -hlz, -hgz, -hpl] | with_reducible refine IfB_dec (fun h => ?_) (fun h => ?_) | with_reducible refine Guard_dec (fun h => ?_) (fun h => ?_) | with_reducible refine Guard_ndec (fun h => ?_) (fun h => ?_) | with_reducible refine Guard_not (fun h => ?_) (fun h => ?_) | with_reducible refine IfB_ndec (fun h => ?_) (fun h => ?_) | with_reducible refine IfB_not (fun h => ?_) (fun h => ?_) | with_reducible refine Guard_split (fun h => ?_) (fun h => ?_) | with_reducible refine IfB_split (fun h => ?_) (fun h => ?_))
    have hpn : ps.length ≤ 20 := by omega
    refine append_own (k := 1) (xs := [w]) ((own_same W.out fun b hb => hlow b (W.out.lt hb)).keep0 (Keep.app none J2 [(⟨[w], 1, .full⟩ : Blk)])) se22 az31 td31 (asrc_sl tk22 (Vs.sl (vs_at (st := .full) (by rw [hget0]; rfl) rfl rfl))) rfl (by decide) (by show (ps.length + 1) * 24 ≤ _; omega) (by show ps.length + 1 ≤ _; omega) (by simp; omega) ?_
    intro wn J4 ow' k4 hn4
    have hwn := ow'.one
    have hJ4 : J2.length + 1 ≤ J4.length := by have := k4.len; simpa using this
    have hwg : ∀ b, wo.blk = some b → H.length + 3 ≤ b := fun b hb => W.out.ge hb
    have z2 : J4[H.length + 2]? = some (⟨[.int .i64 nx, wo], 0, .full⟩ : Blk) := k4.get (get_app y2 _) (fun e => by have := hwg _ e; omega)
    have kk : Keep wo.blk J2 J4 := (Keep.weak (Keep.app none J2 _)).trans k4
    have W4 := W.push hlow hJ2 ow hwL ow' kk (fun b hb => (hn4 b hb).imp id fun h => by simp only [List.length_append] at h; omega)
    have W5 : BxW (H.length + 3) (List.set J4 (H.length + 2) ⟨[.int .i64 nx, wn], 0, .full⟩) wn (ps ++ [w]) (lb ++ [l]) := W4.same fun b h1 h2 => List.getElem?_set_ne (by omega)
    have hb4 : ∀ b, b < H.length + 3 → J4[b]? = J[b]? := fun b hb => by rw [kk.at_ b (by omega) (fun e => by have := hwg _ e; omega)]; exact hlow b (by omega)
    have z0 : (List.set J4 (H.length + 2) ⟨[.int .i64 nx, wn], 0, .full⟩)[H.length]? = some (⟨[.int .i64 nx, boxE.lst bs], 0, .full⟩ : Blk) := by rw [List.getElem?_set_ne (by omega), hb4 _ (by omega)]; exact g0
    have z1 : (List.set J4 (H.length + 2) ⟨[.int .i64 nx, wn], 0, .full⟩)[H.length + 1]? = some (⟨[.int .i64 0, .nils], 0, .full⟩ : Blk) := by rw [List.getElem?_set_ne (by omega), hb4 _ (by omega)]; exact g1
    have z3 : (List.set J4 (H.length + 2) ⟨[.int .i64 nx, wn], 0, .full⟩)[H.length + 2]? = some (⟨[.int .i64 nx, wn], 0, .full⟩ : Blk) := List.getElem?_set_self (by omega)
    have kF : Keep none H (List.set J4 (H.length + 2) ⟨[.int .i64 nx, wn], 0, .full⟩) := ⟨by rw [List.length_set]; have := kJ.len; omega, fun b hb _ => by rw [List.getElem?_set_ne (by omega), hb4 _ (by omega)]; exact kJ.at_ b hb (by simp)⟩
    clear k4 hn4 kk W4 hb4 ow'
    repeat' (first | simp only [go_sem, Nat.reduceLT, Nat.reduceEqDiff, Nat.reduceAdd, Nat.reduceMul, Nat.reduceSub, Nat.reduceLeDiff, Int.reduceToNat, Int.reduceNeg, Int.reduceLT, Int.reduceLE, Int.reduceEq, reduceCtorEq, Int.natCast_zero, Int.natCast_one, Int.cast_ofNat_Int, Bool.not_not, false_eq_decide, true_eq_decide, hread0, hreadk, read_cons0, read_consk, astore_h0, astore_hk, hget0, hgetk, hset0, hsetk, hlen, hcat, Nat.add_assoc, Nat.add_zero, Nat.zero_add, List.length_append, and_true, true_and, AV.flat, z2, get_app z2, read_get z2, read_app z2, z2, get_app z2, read_get z2, read_app z2, astore_get z2, astore_app z2, get_set z2, get_set_app z2, read_set z2, read_set_app z2, astore_set z2, astore_set_app z2, List.set_set, hget0s, hgetks, hread0s, hreadks, List.length_set, hwo, one_solid hwo, one_cells hwo, hww, one_solid hww, one_cells hww, hwn, one_solid hwn, one_cells hwn, *, -hK, -g0, -g1, -g2, -hb, -W, -kJ, -hlt, -hJl, -back, -hl1, -hl2, -hlow, -hJ2, -hwL, -ow, -hlz, -hgz, -hpl, -hpn, -hJ4, -hwg, -W5, -z0, -z1, -z3, -kF, -y0, -y2] | with_reducible refine IfB_dec (fun h => ?_) (fun h => ?_) | with_reducible refine Guard_dec (fun h => ?_) (fun h => ?_) | with_reducible refine Guard_ndec (fun h => ?_) (fun h => ?_) | with_reducible refine Guard_not (fun h => ?_) (fun h => ?_) | with_reducible refine IfB_ndec (fun h => ?_) (fun h => ?_) | with_reducible refine IfB_not (fun h => ?_) (fun h => ?_) | with_reducible refine Guard_split (fun h => ?_) (fun h => ?_) | with_reducible refine IfB_split (fun h => ?_) (fun h => ?_))
    exact back _ _ wn _ (by repeat (first | exact hAf | refine hA0 _ _ _ (by decide) ?_)) (by simp only [go_sem, Nat.reduceLT, Nat.reduceEqDiff, Nat.reduceAdd, Nat.reduceMul, Nat.reduceSub, Nat.reduceLeDiff, Int.reduceToNat, Int.reduceNeg, Int.reduceLT, Int.reduceLE, Int.reduceEq, reduceCtorEq]) kF z0 z1 z3 W5
  have i6 : (z : Int) < l.length := by omega
  have e4 := inc_id hlz (by omega)
  have e2 := at_enc (E := tktE) (T := T) (k := .i64) se31 hlz rfl
  rw [tktE_cells] at e2
  obtain ⟨hq1, hq2⟩ := hl2 _ (List.getElem_mem hlz)
  have hts := List.take_succ_eq_append_getElem hlz
  have hzl : (l.take z).length = z := by rw [List.length_take]; omega
  have back2 : ∀ fr3 J3 w3, A2 fr3 → fr3.get 6 = .int .i64 ((z + 1 : Nat) : Int) → fr3.get 5 = w3 → (∀ b, b < J.length → J3[b]? = J[b]?) → J.length ≤ J3.length → (∀ b, w3.blk = some b → J.length ≤ b) → (∃ v, Own (H.length + 3) J3 w3 12 (tktE.row (l.take z) ++ l[z].csR v) ∧ OwnE Enc.str (H.length + 3) J3 v l[z].cmd.keys ∧ ∀ b, v.blk = some b → J.length ≤ b ∧ w3.blk ≠ some b) → A fr3 → R2 fr3 J3 := fun fr3 J3 w3 ha q1 q2 q3 q4 q5 q6 q7 => by
    obtain ⟨v, v1, v2, v3⟩ := q6
    exact hR2 fr3 J3 ha (l.length - (z + 1)) (by omega) ⟨z + 1, w3, rfl, by omega, q1, q2, q3, q4, q5, .inr ⟨_, _, v, hts, v1, v2, v3⟩, q7⟩
  clear hR2 hl2 hts back
  generalize l.take z = ll at *
  generalize l[z] = t at *
  repeat' (first | simp only [go_sem, Nat.reduceLT, Nat.reduceEqDiff, Nat.reduceAdd, Nat.reduceMul, Nat.reduceSub, Nat.reduceLeDiff, Int.reduceToNat, Int.reduceNeg, Int.reduceLT, Int.reduceLE, Int.reduceEq, reduceCtorEq, Int.natCast_zero, Int.natCast_one, Int.cast_ofNat_Int, Bool.not_not, false_eq_decide, true_eq_decide, hread0, hreadk, read_cons0, read_consk, astore_h0, astore_hk, hget0, hgetk, hset0, hsetk, hlen, hcat, Nat.add_assoc, Nat.add_zero, Nat.zero_add, List.length_append, and_true, true_and, AV.flat, y0, get_app y0, read_get y0, read_app y0, y2, get_app y2, read_get y2, read_app y2, hwo, one_solid hwo, one_cells hwo, hww, one_solid hww, one_cells hww, *, -hK, -g0, -g1, -g2, -hb, -W, -kJ, -hlt, -hJl, -back2, -hl1, -hlow, -hJ2, -hwL, -ow, -hlz, -hgz, -hpl, -hq1, -hq2, -hzl] | with_reducible refine IfB_dec (fun h => ?_) (fun h => ?_) | with_reducible refine Guard_dec (fun h => ?_) (fun h => ?_) | with_reducible refine Guard_ndec (fun h => ?_) (fun h => ?_) | with_reducible refine Guard_not (fun h => ?_) (fun h => ?_) | with_reducible refine IfB_ndec (fun h => ?_) (fun h => ?_) | with_reducible refine IfB_not (fun h => ?_) (fun h => ?_) | with_reducible refine Guard_split (fun h => ?_) (fun h => ?_) | with_reducible refine IfB_split (fun h => ?_) (fun h => ?_))
  have y0a := get_app y0 [(⟨[.int .i64 t.num, .int .u8 t.kind, .int .u8 t.cmd.kind, .int .i64 t.cmd.ten, .nils, .str t.cmd.val, .int .u32 t.cmd.flags, .int .i64 t.cmd.for_, .int .u64 t.cmd.uniq, .int .u64 t.cmd.by_, .int .i64 t.ten, .int .i64 t.to], 0, .full⟩ : Blk)]
  refine WX_rows hT hmix [(0, none), (1, none), (2, none), (3, none), (4, none), (5, none), (6, none), (7, none), (8, none), (9, none), (10, none), (11, none), (12, none), (13, some [true, true, true, true, true, true, true, true, true, true, true, true, true]), (14, none), (15, none), (16, some [true, true, true, true, true, true, true, true, true, true, true, true, true, true, true, true])] (by kernel_rfl) ?_
  repeat' (first | simp only [go_sem, Nat.reduceLT, Nat.reduceEqDiff, Nat.reduceAdd, Nat.reduceMul, Nat.reduceSub, Nat.reduceLeDiff, Int.reduceToNat, Int.reduceNeg, Int.reduceLT, Int.reduceLE, Int.reduceEq, reduceCtorEq, Int.natCast_zero, Int.natCast_one, Int.cast_ofNat_Int, Bool.not_not, false_eq_decide, true_eq_decide, hread0, hreadk, read_cons0, read_consk, astore_h0, astore_hk, hget0, hgetk, hset0, hsetk, hlen, hcat, Nat.add_assoc, Nat.add_zero, Nat.zero_add, List.length_append, and_true, true_and, AV.flat, y0, get_app y0, read_get y0, read_app y0, y0a, get_app y0a, read_get y0a, read_app y0a, hwo, one_solid hwo, one_cells hwo, hww, one_solid hww, one_cells hww, *, -hK, -y2, -g0, -g1, -g2, -hb, -W, -kJ, -hlt, -hJl, -back2, -hl1, -hlow, -hJ2, -hwL, -ow, -hlz, -hgz, -hpl, -hq1, -hq2, -hzl] | with_reducible refine IfB_dec (fun h => ?_) (fun h => ?_) | with_reducible refine Guard_dec (fun h => ?_) (fun h => ?_) | with_reducible refine Guard_ndec (fun h => ?_) (fun h => ?_) | with_reducible refine Guard_not (fun h => ?_) (fun h => ?_) | with_reducible refine IfB_ndec (fun h => ?_) (fun h => ?_) | with_reducible refine IfB_not (fun h => ?_) (fun h => ?_) | with_reducible refine Guard_split (fun h => ?_) (fun h => ?_) | with_reducible refine IfB_split (fun h => ?_) (fun h => ?_))
  refine append_enc (E := Enc.str) (xs := []) (ys := t.cmd.keys) (m := J2.length + 1) (OwnE.nils _ _ _) se32 az9 td9 (src_enc tk32) (by decide) (by show (0 + t.cmd.keys.length) * 17 ≤ _; omega) (by simp) ?_
  intro v1 J3 o1 k1 hn1
  rw [List.nil_append] at o1
  have hv1 := o1.one
  have hJ3 : J2.length + 1 ≤ J3.length := by have := k1.len; simpa using this
  have y7 : J3[J2.length]? = some (⟨[.int .i64 t.num, .int .u8 t.kind, .int .u8 t.cmd.kind, .int .i64 t.cmd.ten, .nils, .str t.cmd.val, .int .u32 t.cmd.flags, .int .i64 t.cmd.for_, .int .u64 t.cmd.uniq, .int .u64 t.cmd.by_, .int .i64 t.ten, .int .i64 t.to], 0, .full⟩ : Blk) := k1.get (by rw [hget0]; rfl) (by simp [AV.blk])
  have hv1g : ∀ b, v1.blk = some b → J2.length + 1 ≤ b := fun b hb => o1.ge hb
  have hb3 : ∀ b, b < J2.length → (List.set J3 J2.length (⟨[.int .i64 t.num, .int .u8 t.kind, .int .u8 t.cmd.kind, .int .i64 t.cmd.ten, v1, .str t.cmd.val, .int .u32 t.cmd.flags, .int .i64 t.cmd.for_, .int .u64 t.cmd.uniq, .int .u64 t.cmd.by_, .int .i64 t.ten, .int .i64 t.to], 0, .full⟩ : Blk))[b]? = J2[b]? := fun b hb => by rw [List.getElem?_set_ne (by omega), k1.at_ b (by simp; omega) (by simp [AV.blk]), List.getElem?_append_left hb]
  have y8 : (List.set J3 J2.length (⟨[.int .i64 t.num, .int .u8 t.kind, .int .u8 t.cmd.kind, .int .i64 t.cmd.ten, v1, .str t.cmd.val, .int .u32 t.cmd.flags, .int .i64 t.cmd.for_, .int .u64 t.cmd.uniq, .int .u64 t.cmd.by_, .int .i64 t.ten, .int .i64 t.to], 0, .full⟩ : Blk))[J2.length]? = some (⟨[.int .i64 t.num, .int .u8 t.kind, .int .u8 t.cmd.kind, .int .i64 t.cmd.ten, v1, .str t.cmd.val, .int .u32 t.cmd.flags, .int .i64 t.cmd.for_, .int .u64 t.cmd.uniq, .int .u64 t.cmd.by_, .int .i64 t.ten, .int .i64 t.to], 0, .full⟩ : Blk) := List.getElem?_set_self (by omega)
  have o2 : OwnE Enc.str (H.length + 3) (List.set J3 J2.length (⟨[.int .i64 t.num, .int .u8 t.kind, .int .u8 t.cmd.kind, .int .i64 t.cmd.ten, v1, .str t.cmd.val, .int .u32 t.cmd.flags, .int .i64 t.cmd.for_, .int .u64 t.cmd.uniq, .int .u64 t.cmd.by_, .int .i64 t.ten, .int .i64 t.to], 0, .full⟩ : Blk)) v1 t.cmd.keys := own_same (Own.mono o1 (by omega)) fun b hb => List.getElem?_set_ne fun e => by have := hv1g b hb; omega
  have hSl : (List.set J3 J2.length (⟨[.int .i64 t.num, .int .u8 t.kind, .int .u8 t.cmd.kind, .int .i64 t.cmd.ten, v1, .str t.cmd.val, .int .u32 t.cmd.flags, .int .i64 t.cmd.for_, .int .u64 t.cmd.uniq, .int .u64 t.cmd.by_, .int .i64 t.ten, .int .i64 t.to], 0, .full⟩ : Blk)).length = J3.length := List.length_set ..
  have y03 : J3[H.length]? = some (⟨[.int .i64 nx, boxE.lst bs], 0, .full⟩ : Blk) := by rw [k1.at_ _ (by simp; omega) (by simp [AV.blk]), List.getElem?_append_left (by omega)]; exact y0
  repeat' (first | simp only [go_sem, Nat.reduceLT, Nat.reduceEqDiff, Nat.reduceAdd, Nat.reduceMul, Nat.reduceSub, Nat.reduceLeDiff, Int.reduceToNat, Int.reduceNeg, Int.reduceLT, Int.reduceLE, Int.reduceEq, reduceCtorEq, Int.natCast_zero, Int.natCast_one, Int.cast_ofNat_Int, Bool.not_not, false_eq_decide, true_eq_decide, hread0, hreadk, read_cons0, read_consk, astore_h0, astore_hk, hget0, hgetk, hset0, hsetk, hlen, hcat, Nat.add_assoc, Nat.add_zero, Nat.zero_add, List.length_append, and_true, true_and, AV.flat, y7, get_app y7, read_get y7, read_app y7, y03, get_app y03, read_get y03, read_app y03, y7, get_app y7, read_get y7, read_app y7, astore_get y7, astore_app y7, get_set y7, get_set_app y7, read_set y7, read_set_app y7, astore_set y7, astore_set_app y7, List.set_set, hget0s, hgetks, hread0s, hreadks, List.length_set, hv1, one_solid hv1, one_cells hv1, hwo, one_solid hwo, one_cells hwo, hww, one_solid hww, one_cells hww, *, -hK, -y0, -y2, -g0, -g1, -g2, -hb, -W, -kJ, -hlt, -hJl, -back2, -hl1, -hlow, -hJ2, -hwL, -ow, -hlz, -hgz, -hpl, -hq1, -hq2, -hzl, -o1, -k1, -hn1, -hJ3, -hv1g, -hb3, -y8, -o2, -hSl, -y0a] | with_reducible refine IfB_dec (fun h => ?_) (fun h => ?_) | with_reducible refine Guard_dec (fun h => ?_) (fun h => ?_) | with_reducible refine Guard_ndec (fun h => ?_) (fun h => ?_) | with_reducible refine Guard_not (fun h => ?_) (fun h => ?_) | with_reducible refine IfB_ndec (fun h => ?_) (fun h => ?_) | with_reducible refine IfB_not (fun h => ?_) (fun h => ?_) | with_reducible refine Guard_split (fun h => ?_) (fun h => ?_) | with_reducible refine IfB_split (fun h => ?_) (fun h => ?_))
  have o1l : ∀ b, v1.blk = some b → b < J3.length := fun b hb => o1.lt hb
  generalize (List.set J3 J2.length (⟨[.int .i64 t.num, .int .u8 t.kind, .int .u8 t.cmd.kind, .int .i64 t.cmd.ten, v1, .str t.cmd.val, .int .u32 t.cmd.flags, .int .i64 t.cmd.for_, .int .u64 t.cmd.uniq, .int .u64 t.cmd.by_, .int .i64 t.ten, .int .i64 t.to], 0, .full⟩ : Blk) : Heap) = S at *
  rw [show J3.length = S.length from hSl.symm] at o1l
  rw [show J3.length = S.length from hSl.symm]
  have hSL : J2.length + 1 ≤ S.length := by omega
  have hwl : ∀ b, w.blk = some b → b < J2.length := fun b hb => ow.lt hb
  refine append_own (k := 1) (xs := t.csR v1) ((own_same ow fun b hb => hb3 b (ow.lt hb) : Own (H.length + 3) S w 12 (tktE.row ll)).keep0 (Keep.app none S [(⟨t.csR v1, 12, .full⟩ : Blk)])) se31 az38 td38 (asrc_sl tk31 (Vs.sl (vs_at (st := .full) (by rw [hget0]; rfl) rfl rfl))) rfl (by decide) (by rw [Enc.row_length]; show (ll.length * 12 + 12) * 120 ≤ _; omega) (by rw [Enc.row_length]; show ll.length * 12 + 12 ≤ _; omega) (by simp; omega) ?_
  intro w3 J5 ow5 k5 hn5
  have hw3 := ow5.one
  have hJ5 : S.length + 1 ≤ J5.length := by have := k5.len; simpa using this
  have hlow5 : ∀ b, b < J.length → J5[b]? = J[b]? := fun b hb => by rw [k5.at_ b (by simp; omega) (fun e => by have := hwL b e; omega), List.getElem?_append_left (by omega), hb3 b (by omega)]; exact hlow b hb
  have hwL5 : ∀ b, w3.blk = some b → J.length ≤ b := fun b hb => by
    rcases hn5 b hb with h | h
    · exact hwL b h
    · simp only [List.length_append] at h; omega
  have o5 : OwnE Enc.str (H.length + 3) J5 v1 t.cmd.keys := own_same o2 fun b hb => by
    have h1 := hv1g b hb
    rw [k5.at_ b (by have := o1l b hb; simp; omega) (fun e => by have := hwl b e; omega), List.getElem?_append_left (o1l b hb)]
  have hd5 : ∀ b, v1.blk = some b → J.length ≤ b ∧ w3.blk ≠ some b := fun b hb => ⟨by have := hv1g b hb; omega, fun e => by
    rcases hn5 b e with h | h
    · have := hwl b h; have := hv1g b hb; omega
    · have := o1l b hb; simp only [List.length_append] at h; omega⟩
  have hfin : ∃ v, Own (H.length + 3) J5 w3 12 (tktE.row ll ++ t.csR v) ∧ OwnE Enc.str (H.length + 3) J5 v t.cmd.keys ∧ ∀ b, v.blk = some b → J.length ≤ b ∧ w3.blk ≠ some b := ⟨v1, ow5, o5, hd5⟩
  clear k5 hn5 ow5 o5 hd5 o1 o2 k1 hn1 hb3 o1l hwl
  repeat' (first | simp only [go_sem, Nat.reduceLT, Nat.reduceEqDiff, Nat.reduceAdd, Nat.reduceMul, Nat.reduceSub, Nat.reduceLeDiff, Int.reduceToNat, Int.reduceNeg, Int.reduceLT, Int.reduceLE, Int.reduceEq, reduceCtorEq, Int.natCast_zero, Int.natCast_one, Int.cast_ofNat_Int, Bool.not_not, false_eq_decide, true_eq_decide, hread0, hreadk, read_cons0, read_consk, astore_h0, astore_hk, hget0, hgetk, hset0, hsetk, hlen, hcat, Nat.add_assoc, Nat.add_zero, Nat.zero_add, List.length_append, and_true, true_and, AV.flat, hv1, one_solid hv1, one_cells hv1, hwo, one_solid hwo, one_cells hwo, hww, one_solid hww, one_cells hww, hw3, one_solid hw3, one_cells hw3, *, -hK, -y0, -y2, -g0, -g1, -g2, -hb, -W, -kJ, -hlt, -hJl, -back2, -hl1, -hlow, -hJ2, -hwL, -ow, -hlz, -hgz, -hpl, -hq1, -hq2, -hzl, -hJ3, -hv1g, -y8, -hSl, -y0a, -y7, -y03, -hSL, -hJ5, -hlow5, -hwL5, -hfin] | with_reducible refine IfB_dec (fun h => ?_) (fun h => ?_) | with_reducible refine Guard_dec (fun h => ?_) (fun h => ?_) | with_reducible refine Guard_ndec (fun h => ?_) (fun h => ?_) | with_reducible refine Guard_not (fun h => ?_) (fun h => ?_) | with_reducible refine IfB_ndec (fun h => ?_) (fun h => ?_) | with_reducible refine IfB_not (fun h => ?_) (fun h => ?_) | with_reducible refine Guard_split (fun h => ?_) (fun h => ?_) | with_reducible refine IfB_split (fun h => ?_) (fun h => ?_))
  exact back2 _ _ w3 (by (repeat (first | exact hs | refine hA _ _ _ (by decide) ?_))) (by simp only [go_sem, Nat.reduceLT, Nat.reduceEqDiff, Nat.reduceAdd, Nat.reduceMul, Nat.reduceSub, Nat.reduceLeDiff, Int.reduceToNat, Int.reduceNeg, Int.reduceLT, Int.reduceLE, Int.reduceEq, reduceCtorEq]) (by simp only [go_sem, Nat.reduceLT, Nat.reduceEqDiff, Nat.reduceAdd, Nat.reduceMul, Nat.reduceSub, Nat.reduceLeDiff, Int.reduceToNat, Int.reduceNeg, Int.reduceLT, Int.reduceLE, Int.reduceEq, reduceCtorEq]) hlow5 (by omega) hwL5 hfin (by repeat (first | exact hAf | refine hA0 _ _ _ (by decide) ?_))
open Go Go.Proofs Go.Proofs.PI
theorem may12_spec (t : Tkt) (hn : t.cmd.keys.length ≤ 1000) (H : Heap) : WC Try.prog 38 [t.av] H fun r H' => r = .bool t.mayB ∧ H' = H := by
  refine WC_val fun K hK => ?_
  have oc := fun J => refMay_spec t.cmd (by omega) J
  have zs := fun J => sameCmd0 t.cmd hn J
  obtain ⟨a1, a2, ⟨a5, a6, a7, a8, a9, aA, aB, aC⟩, a3, a4⟩ := t
  unfold Tkt.av Cmd.av at *
  unfold Tkt.mayB at hK
  simp only at *
  by_cases k1 : a2 = 1
  · rw [if_pos k1] at hK
    subst k1
    cases hc : cmdB (⟨a5, a6, a7, a8, a9, aA, aB, aC⟩ : Cmd) with
    | false =>
      rw [hc] at hK oc
      rw [Bool.false_and] at hK
      clear hc
      refine WC_of_body hT Try.func38 rfl (by simp [Try.f38]) (by simp [Try.f38]) (wx_sound hT _ ?_)
      simp only [Try.f38]
      repeat' (first | simp only [go_sem, Nat.reduceLT, Nat.reduceEqDiff, Nat.reduceAdd, Nat.reduceMul, Nat.reduceSub, Nat.reduceLeDiff, Int.reduceToNat, Int.reduceNeg, Int.reduceLT, Int.reduceLE, Int.reduceEq, reduceCtorEq, Int.natCast_zero, Int.natCast_one, Int.cast_ofNat_Int, Bool.not_not, false_eq_decide, true_eq_decide, hread0, hreadk, read_cons0, read_consk, astore_h0, astore_hk, hget0, hgetk, hset0, hsetk, hlen, hcat, Nat.add_assoc, Nat.add_zero, Nat.zero_add, List.length_append, and_true, true_and, AV.flat, *, -hK, -oc, -zs] | refine WC.call (oc _) ?_ | refine WC.call (zs _) ?_ | with_reducible refine IfB_dec (fun h => ?_) (fun h => ?_) | with_reducible refine Guard_dec (fun h => ?_) (fun h => ?_) | with_reducible refine Guard_ndec (fun h => ?_) (fun h => ?_) | with_reducible refine Guard_not (fun h => ?_) (fun h => ?_) | with_reducible refine IfB_ndec (fun h => ?_) (fun h => ?_) | with_reducible refine IfB_not (fun h => ?_) (fun h => ?_) | with_reducible refine Guard_split (fun h => ?_) (fun h => ?_) | with_reducible refine IfB_split (fun h => ?_) (fun h => ?_))
      exact hK _ _ (.bool _) (Keep.app _ _ _)
    | true =>
      rw [hc] at hK oc
      rw [Bool.true_and] at hK
      clear hc
      by_cases h1 : a3 = 0
      · rw [show decide (a3 = 0 ∧ a4 = 0) = decide (a4 = 0) by simp [h1]] at hK
        refine WC_of_body hT Try.func38 rfl (by simp [Try.f38]) (by simp [Try.f38]) (wx_sound hT _ ?_)
        simp only [Try.f38]
        repeat' (first | simp only [go_sem, Nat.reduceLT, Nat.reduceEqDiff, Nat.reduceAdd, Nat.reduceMul, Nat.reduceSub, Nat.reduceLeDiff, Int.reduceToNat, Int.reduceNeg, Int.reduceLT, Int.reduceLE, Int.reduceEq, reduceCtorEq, Int.natCast_zero, Int.natCast_one, Int.cast_ofNat_Int, Bool.not_not, false_eq_decide, true_eq_decide, hread0, hreadk, read_cons0, read_consk, astore_h0, astore_hk, hget0, hgetk, hset0, hsetk, hlen, hcat, Nat.add_assoc, Nat.add_zero, Nat.zero_add, List.length_append, and_true, true_and, AV.flat, *, -hK, -oc, -zs] | refine WC.call (oc _) ?_ | refine WC.call (zs _) ?_ | with_reducible refine IfB_dec (fun h => ?_) (fun h => ?_) | with_reducible refine Guard_dec (fun h => ?_) (fun h => ?_) | with_reducible refine Guard_ndec (fun h => ?_) (fun h => ?_) | with_reducible refine Guard_not (fun h => ?_) (fun h => ?_) | with_reducible refine IfB_ndec (fun h => ?_) (fun h => ?_) | with_reducible refine IfB_not (fun h => ?_) (fun h => ?_) | with_reducible refine Guard_split (fun h => ?_) (fun h => ?_) | with_reducible refine IfB_split (fun h => ?_) (fun h => ?_))
        exact hK _ _ (.bool _) (Keep.app _ _ _)
      · rw [show decide (a3 = 0 ∧ a4 = 0) = false by simp [h1]] at hK
        refine WC_of_body hT Try.func38 rfl (by simp [Try.f38]) (by simp [Try.f38]) (wx_sound hT _ ?_)
        simp only [Try.f38]
        repeat' (first | simp only [go_sem, Nat.reduceLT, Nat.reduceEqDiff, Nat.reduceAdd, Nat.reduceMul, Nat.reduceSub, Nat.reduceLeDiff, Int.reduceToNat, Int.reduceNeg, Int.reduceLT, Int.reduceLE, Int.reduceEq, reduceCtorEq, Int.natCast_zero, Int.natCast_one, Int.cast_ofNat_Int, Bool.not_not, false_eq_decide, true_eq_decide, hread0, hreadk, read_cons0, read_consk, astore_h0, astore_hk, hget0, hgetk, hset0, hsetk, hlen, hcat, Nat.add_assoc, Nat.add_zero, Nat.zero_add, List.length_append, and_true, true_and, AV.flat, *, -hK, -oc, -zs] | refine WC.call (oc _) ?_ | refine WC.call (zs _) ?_ | with_reducible refine IfB_dec (fun h => ?_) (fun h => ?_) | with_reducible refine Guard_dec (fun h => ?_) (fun h => ?_) | with_reducible refine Guard_ndec (fun h => ?_) (fun h => ?_) | with_reducible refine Guard_not (fun h => ?_) (fun h => ?_) | with_reducible refine IfB_ndec (fun h => ?_) (fun h => ?_) | with_reducible refine IfB_not (fun h => ?_) (fun h => ?_) | with_reducible refine Guard_split (fun h => ?_) (fun h => ?_) | with_reducible refine IfB_split (fun h => ?_) (fun h => ?_))
        exact hK _ _ (.bool _) (Keep.app _ _ _)
  rw [if_neg k1] at hK
  by_cases k2 : a2 = 2
  · rw [if_pos k2] at hK
    subst k2
    by_cases hz : (⟨a5, a6, a7, a8, a9, aA, aB, aC⟩ : Cmd) = cmd0
    rotate_left
    · rw [show decide (_ ∧ _) = false by simp [hz]] at hK
      rw [decide_eq_false hz] at zs
      clear hz
      refine WC_of_body hT Try.func38 rfl (by simp [Try.f38]) (by simp [Try.f38]) (wx_sound hT _ ?_)
      simp only [Try.f38]
      repeat' (first | simp only [go_sem, Nat.reduceLT, Nat.reduceEqDiff, Nat.reduceAdd, Nat.reduceMul, Nat.reduceSub, Nat.reduceLeDiff, Int.reduceToNat, Int.reduceNeg, Int.reduceLT, Int.reduceLE, Int.reduceEq, reduceCtorEq, Int.natCast_zero, Int.natCast_one, Int.cast_ofNat_Int, Bool.not_not, false_eq_decide, true_eq_decide, hread0, hreadk, read_cons0, read_consk, astore_h0, astore_hk, hget0, hgetk, hset0, hsetk, hlen, hcat, Nat.add_assoc, Nat.add_zero, Nat.zero_add, List.length_append, and_true, true_and, AV.flat, *, -hK, -oc, -zs] | refine WC.call (oc _) ?_ | refine WC.call (zs _) ?_ | with_reducible refine IfB_dec (fun h => ?_) (fun h => ?_) | with_reducible refine Guard_dec (fun h => ?_) (fun h => ?_) | with_reducible refine Guard_ndec (fun h => ?_) (fun h => ?_) | with_reducible refine Guard_not (fun h => ?_) (fun h => ?_) | with_reducible refine IfB_ndec (fun h => ?_) (fun h => ?_) | with_reducible refine IfB_not (fun h => ?_) (fun h => ?_) | with_reducible refine Guard_split (fun h => ?_) (fun h => ?_) | with_reducible refine IfB_split (fun h => ?_) (fun h => ?_))
      exact hK _ _ (.bool _) (Keep.app _ _ _)
    rw [decide_eq_true hz] at zs
    by_cases h1 : a3 = 0
    rotate_left
    · rw [show decide (_ ∧ _) = false by simp [h1]] at hK
      clear hz
      refine WC_of_body hT Try.func38 rfl (by simp [Try.f38]) (by simp [Try.f38]) (wx_sound hT _ ?_)
      simp only [Try.f38]
      repeat' (first | simp only [go_sem, Nat.reduceLT, Nat.reduceEqDiff, Nat.reduceAdd, Nat.reduceMul, Nat.reduceSub, Nat.reduceLeDiff, Int.reduceToNat, Int.reduceNeg, Int.reduceLT, Int.reduceLE, Int.reduceEq, reduceCtorEq, Int.natCast_zero, Int.natCast_one, Int.cast_ofNat_Int, Bool.not_not, false_eq_decide, true_eq_decide, hread0, hreadk, read_cons0, read_consk, astore_h0, astore_hk, hget0, hgetk, hset0, hsetk, hlen, hcat, Nat.add_assoc, Nat.add_zero, Nat.zero_add, List.length_append, and_true, true_and, AV.flat, *, -hK, -oc, -zs] | refine WC.call (oc _) ?_ | refine WC.call (zs _) ?_ | with_reducible refine IfB_dec (fun h => ?_) (fun h => ?_) | with_reducible refine Guard_dec (fun h => ?_) (fun h => ?_) | with_reducible refine Guard_ndec (fun h => ?_) (fun h => ?_) | with_reducible refine Guard_not (fun h => ?_) (fun h => ?_) | with_reducible refine IfB_ndec (fun h => ?_) (fun h => ?_) | with_reducible refine IfB_not (fun h => ?_) (fun h => ?_) | with_reducible refine Guard_split (fun h => ?_) (fun h => ?_) | with_reducible refine IfB_split (fun h => ?_) (fun h => ?_))
      exact hK _ _ (.bool _) (Keep.app _ _ _)
    by_cases h2 : 0 ≤ a4
    rotate_left
    · rw [show decide (_ ∧ _) = false by simp [h2]] at hK
      have h2b : ¬ a4 ≥ 0 := h2
      clear hz
      refine WC_of_body hT Try.func38 rfl (by simp [Try.f38]) (by simp [Try.f38]) (wx_sound hT _ ?_)
      simp only [Try.f38]
      repeat' (first | simp only [go_sem, Nat.reduceLT, Nat.reduceEqDiff, Nat.reduceAdd, Nat.reduceMul, Nat.reduceSub, Nat.reduceLeDiff, Int.reduceToNat, Int.reduceNeg, Int.reduceLT, Int.reduceLE, Int.reduceEq, reduceCtorEq, Int.natCast_zero, Int.natCast_one, Int.cast_ofNat_Int, Bool.not_not, false_eq_decide, true_eq_decide, hread0, hreadk, read_cons0, read_consk, astore_h0, astore_hk, hget0, hgetk, hset0, hsetk, hlen, hcat, Nat.add_assoc, Nat.add_zero, Nat.zero_add, List.length_append, and_true, true_and, AV.flat, *, -hK, -oc, -zs] | refine WC.call (oc _) ?_ | refine WC.call (zs _) ?_ | with_reducible refine IfB_dec (fun h => ?_) (fun h => ?_) | with_reducible refine Guard_dec (fun h => ?_) (fun h => ?_) | with_reducible refine Guard_ndec (fun h => ?_) (fun h => ?_) | with_reducible refine Guard_not (fun h => ?_) (fun h => ?_) | with_reducible refine IfB_ndec (fun h => ?_) (fun h => ?_) | with_reducible refine IfB_not (fun h => ?_) (fun h => ?_) | with_reducible refine Guard_split (fun h => ?_) (fun h => ?_) | with_reducible refine IfB_split (fun h => ?_) (fun h => ?_))
      exact hK _ _ (.bool _) (Keep.app _ _ _)
    rw [show decide ((⟨a5, a6, a7, a8, a9, aA, aB, aC⟩ : Cmd) = cmd0 ∧ a3 = 0 ∧ 0 ≤ a4 ∧ a4 ≤ 1099511627776) = decide (a4 ≤ 1099511627776) by simp [hz, h1, h2]] at hK
    have h2b : a4 ≥ 0 := h2
    clear hz
    refine WC_of_body hT Try.func38 rfl (by simp [Try.f38]) (by simp [Try.f38]) (wx_sound hT _ ?_)
    simp only [Try.f38]
    repeat' (first | simp only [go_sem, Nat.reduceLT, Nat.reduceEqDiff, Nat.reduceAdd, Nat.reduceMul, Nat.reduceSub, Nat.reduceLeDiff, Int.reduceToNat, Int.reduceNeg, Int.reduceLT, Int.reduceLE, Int.reduceEq, reduceCtorEq, Int.natCast_zero, Int.natCast_one, Int.cast_ofNat_Int, Bool.not_not, false_eq_decide, true_eq_decide, hread0, hreadk, read_cons0, read_consk, astore_h0, astore_hk, hget0, hgetk, hset0, hsetk, hlen, hcat, Nat.add_assoc, Nat.add_zero, Nat.zero_add, List.length_append, and_true, true_and, AV.flat, *, -hK, -oc, -zs] | refine WC.call (oc _) ?_ | refine WC.call (zs _) ?_ | with_reducible refine IfB_dec (fun h => ?_) (fun h => ?_) | with_reducible refine Guard_dec (fun h => ?_) (fun h => ?_) | with_reducible refine Guard_ndec (fun h => ?_) (fun h => ?_) | with_reducible refine Guard_not (fun h => ?_) (fun h => ?_) | with_reducible refine IfB_ndec (fun h => ?_) (fun h => ?_) | with_reducible refine IfB_not (fun h => ?_) (fun h => ?_) | with_reducible refine Guard_split (fun h => ?_) (fun h => ?_) | with_reducible refine IfB_split (fun h => ?_) (fun h => ?_))
    exact hK _ _ (.bool _) (Keep.app _ _ _)
  rw [if_neg k2] at hK
  by_cases k3 : a2 = 3
  rotate_left
  · rw [show decide (_ ∧ _) = false by simp [k3]] at hK
    refine WC_of_body hT Try.func38 rfl (by simp [Try.f38]) (by simp [Try.f38]) (wx_sound hT _ ?_)
    simp only [Try.f38]
    repeat' (first | simp only [go_sem, Nat.reduceLT, Nat.reduceEqDiff, Nat.reduceAdd, Nat.reduceMul, Nat.reduceSub, Nat.reduceLeDiff, Int.reduceToNat, Int.reduceNeg, Int.reduceLT, Int.reduceLE, Int.reduceEq, reduceCtorEq, Int.natCast_zero, Int.natCast_one, Int.cast_ofNat_Int, Bool.not_not, false_eq_decide, true_eq_decide, hread0, hreadk, read_cons0, read_consk, astore_h0, astore_hk, hget0, hgetk, hset0, hsetk, hlen, hcat, Nat.add_assoc, Nat.add_zero, Nat.zero_add, List.length_append, and_true, true_and, AV.flat, *, -hK, -oc, -zs] | refine WC.call (oc _) ?_ | refine WC.call (zs _) ?_ | with_reducible refine IfB_dec (fun h => ?_) (fun h => ?_) | with_reducible refine Guard_dec (fun h => ?_) (fun h => ?_) | with_reducible refine Guard_ndec (fun h => ?_) (fun h => ?_) | with_reducible refine Guard_not (fun h => ?_) (fun h => ?_) | with_reducible refine IfB_ndec (fun h => ?_) (fun h => ?_) | with_reducible refine IfB_not (fun h => ?_) (fun h => ?_) | with_reducible refine Guard_split (fun h => ?_) (fun h => ?_) | with_reducible refine IfB_split (fun h => ?_) (fun h => ?_))
    exact hK _ _ (.bool _) (Keep.app _ _ _)
  subst k3
  by_cases hz : (⟨a5, a6, a7, a8, a9, aA, aB, aC⟩ : Cmd) = cmd0
  rotate_left
  · rw [show decide (_ ∧ _) = false by simp [hz]] at hK
    rw [decide_eq_false hz] at zs
    clear hz
    refine WC_of_body hT Try.func38 rfl (by simp [Try.f38]) (by simp [Try.f38]) (wx_sound hT _ ?_)
    simp only [Try.f38]
    repeat' (first | simp only [go_sem, Nat.reduceLT, Nat.reduceEqDiff, Nat.reduceAdd, Nat.reduceMul, Nat.reduceSub, Nat.reduceLeDiff, Int.reduceToNat, Int.reduceNeg, Int.reduceLT, Int.reduceLE, Int.reduceEq, reduceCtorEq, Int.natCast_zero, Int.natCast_one, Int.cast_ofNat_Int, Bool.not_not, false_eq_decide, true_eq_decide, hread0, hreadk, read_cons0, read_consk, astore_h0, astore_hk, hget0, hgetk, hset0, hsetk, hlen, hcat, Nat.add_assoc, Nat.add_zero, Nat.zero_add, List.length_append, and_true, true_and, AV.flat, *, -hK, -oc, -zs] | refine WC.call (oc _) ?_ | refine WC.call (zs _) ?_ | with_reducible refine IfB_dec (fun h => ?_) (fun h => ?_) | with_reducible refine Guard_dec (fun h => ?_) (fun h => ?_) | with_reducible refine Guard_ndec (fun h => ?_) (fun h => ?_) | with_reducible refine Guard_not (fun h => ?_) (fun h => ?_) | with_reducible refine IfB_ndec (fun h => ?_) (fun h => ?_) | with_reducible refine IfB_not (fun h => ?_) (fun h => ?_) | with_reducible refine Guard_split (fun h => ?_) (fun h => ?_) | with_reducible refine IfB_split (fun h => ?_) (fun h => ?_))
    exact hK _ _ (.bool _) (Keep.app _ _ _)
  rw [decide_eq_true hz] at zs
  by_cases h1 : 0 ≤ a3
  rotate_left
  · rw [show decide (_ ∧ _) = false by simp [h1]] at hK
    have h1b : ¬ a3 ≥ 0 := h1
    clear hz
    refine WC_of_body hT Try.func38 rfl (by simp [Try.f38]) (by simp [Try.f38]) (wx_sound hT _ ?_)
    simp only [Try.f38]
    repeat' (first | simp only [go_sem, Nat.reduceLT, Nat.reduceEqDiff, Nat.reduceAdd, Nat.reduceMul, Nat.reduceSub, Nat.reduceLeDiff, Int.reduceToNat, Int.reduceNeg, Int.reduceLT, Int.reduceLE, Int.reduceEq, reduceCtorEq, Int.natCast_zero, Int.natCast_one, Int.cast_ofNat_Int, Bool.not_not, false_eq_decide, true_eq_decide, hread0, hreadk, read_cons0, read_consk, astore_h0, astore_hk, hget0, hgetk, hset0, hsetk, hlen, hcat, Nat.add_assoc, Nat.add_zero, Nat.zero_add, List.length_append, and_true, true_and, AV.flat, *, -hK, -oc, -zs] | refine WC.call (oc _) ?_ | refine WC.call (zs _) ?_ | with_reducible refine IfB_dec (fun h => ?_) (fun h => ?_) | with_reducible refine Guard_dec (fun h => ?_) (fun h => ?_) | with_reducible refine Guard_ndec (fun h => ?_) (fun h => ?_) | with_reducible refine Guard_not (fun h => ?_) (fun h => ?_) | with_reducible refine IfB_ndec (fun h => ?_) (fun h => ?_) | with_reducible refine IfB_not (fun h => ?_) (fun h => ?_) | with_reducible refine Guard_split (fun h => ?_) (fun h => ?_) | with_reducible refine IfB_split (fun h => ?_) (fun h => ?_))
    exact hK _ _ (.bool _) (Keep.app _ _ _)
  have h1b : a3 ≥ 0 := h1
  by_cases h3 : a3 < 4
  rotate_left
  · rw [show decide (_ ∧ _) = false by simp [h3]] at hK
    clear hz
    refine WC_of_body hT Try.func38 rfl (by simp [Try.f38]) (by simp [Try.f38]) (wx_sound hT _ ?_)
    simp only [Try.f38]
    repeat' (first | simp only [go_sem, Nat.reduceLT, Nat.reduceEqDiff, Nat.reduceAdd, Nat.reduceMul, Nat.reduceSub, Nat.reduceLeDiff, Int.reduceToNat, Int.reduceNeg, Int.reduceLT, Int.reduceLE, Int.reduceEq, reduceCtorEq, Int.natCast_zero, Int.natCast_one, Int.cast_ofNat_Int, Bool.not_not, false_eq_decide, true_eq_decide, hread0, hreadk, read_cons0, read_consk, astore_h0, astore_hk, hget0, hgetk, hset0, hsetk, hlen, hcat, Nat.add_assoc, Nat.add_zero, Nat.zero_add, List.length_append, and_true, true_and, AV.flat, *, -hK, -oc, -zs] | refine WC.call (oc _) ?_ | refine WC.call (zs _) ?_ | with_reducible refine IfB_dec (fun h => ?_) (fun h => ?_) | with_reducible refine Guard_dec (fun h => ?_) (fun h => ?_) | with_reducible refine Guard_ndec (fun h => ?_) (fun h => ?_) | with_reducible refine Guard_not (fun h => ?_) (fun h => ?_) | with_reducible refine IfB_ndec (fun h => ?_) (fun h => ?_) | with_reducible refine IfB_not (fun h => ?_) (fun h => ?_) | with_reducible refine Guard_split (fun h => ?_) (fun h => ?_) | with_reducible refine IfB_split (fun h => ?_) (fun h => ?_))
    exact hK _ _ (.bool _) (Keep.app _ _ _)
  by_cases h2 : 0 ≤ a4
  rotate_left
  · rw [show decide (_ ∧ _) = false by simp [h2]] at hK
    have h2b : ¬ a4 ≥ 0 := h2
    clear hz
    refine WC_of_body hT Try.func38 rfl (by simp [Try.f38]) (by simp [Try.f38]) (wx_sound hT _ ?_)
    simp only [Try.f38]
    repeat' (first | simp only [go_sem, Nat.reduceLT, Nat.reduceEqDiff, Nat.reduceAdd, Nat.reduceMul, Nat.reduceSub, Nat.reduceLeDiff, Int.reduceToNat, Int.reduceNeg, Int.reduceLT, Int.reduceLE, Int.reduceEq, reduceCtorEq, Int.natCast_zero, Int.natCast_one, Int.cast_ofNat_Int, Bool.not_not, false_eq_decide, true_eq_decide, hread0, hreadk, read_cons0, read_consk, astore_h0, astore_hk, hget0, hgetk, hset0, hsetk, hlen, hcat, Nat.add_assoc, Nat.add_zero, Nat.zero_add, List.length_append, and_true, true_and, AV.flat, *, -hK, -oc, -zs] | refine WC.call (oc _) ?_ | refine WC.call (zs _) ?_ | with_reducible refine IfB_dec (fun h => ?_) (fun h => ?_) | with_reducible refine Guard_dec (fun h => ?_) (fun h => ?_) | with_reducible refine Guard_ndec (fun h => ?_) (fun h => ?_) | with_reducible refine Guard_not (fun h => ?_) (fun h => ?_) | with_reducible refine IfB_ndec (fun h => ?_) (fun h => ?_) | with_reducible refine IfB_not (fun h => ?_) (fun h => ?_) | with_reducible refine Guard_split (fun h => ?_) (fun h => ?_) | with_reducible refine IfB_split (fun h => ?_) (fun h => ?_))
    exact hK _ _ (.bool _) (Keep.app _ _ _)
  rw [show decide ((3 : Int) = 3 ∧ (⟨a5, a6, a7, a8, a9, aA, aB, aC⟩ : Cmd) = cmd0 ∧ (0 ≤ a3 ∧ a3 < 4) ∧ 0 ≤ a4 ∧ a4 ≤ 16) = decide (a4 ≤ 16) by simp [hz, h1, h2, h3]] at hK
  have h2b : a4 ≥ 0 := h2
  clear hz
  refine WC_of_body hT Try.func38 rfl (by simp [Try.f38]) (by simp [Try.f38]) (wx_sound hT _ ?_)
  simp only [Try.f38]
  repeat' (first | simp only [go_sem, Nat.reduceLT, Nat.reduceEqDiff, Nat.reduceAdd, Nat.reduceMul, Nat.reduceSub, Nat.reduceLeDiff, Int.reduceToNat, Int.reduceNeg, Int.reduceLT, Int.reduceLE, Int.reduceEq, reduceCtorEq, Int.natCast_zero, Int.natCast_one, Int.cast_ofNat_Int, Bool.not_not, false_eq_decide, true_eq_decide, hread0, hreadk, read_cons0, read_consk, astore_h0, astore_hk, hget0, hgetk, hset0, hsetk, hlen, hcat, Nat.add_assoc, Nat.add_zero, Nat.zero_add, List.length_append, and_true, true_and, AV.flat, *, -hK, -oc, -zs] | refine WC.call (oc _) ?_ | refine WC.call (zs _) ?_ | with_reducible refine IfB_dec (fun h => ?_) (fun h => ?_) | with_reducible refine Guard_dec (fun h => ?_) (fun h => ?_) | with_reducible refine Guard_ndec (fun h => ?_) (fun h => ?_) | with_reducible refine Guard_not (fun h => ?_) (fun h => ?_) | with_reducible refine IfB_ndec (fun h => ?_) (fun h => ?_) | with_reducible refine IfB_not (fun h => ?_) (fun h => ?_) | with_reducible refine Guard_split (fun h => ?_) (fun h => ?_) | with_reducible refine IfB_split (fun h => ?_) (fun h => ?_))
  exact hK _ _ (.bool _) (Keep.app _ _ _)

theorem mayB_cmd {t : Tkt} (h : t.mayB = true) (hk : t.kind = 1) : cmdB t.cmd = true := by
  unfold Tkt.mayB at h
  rw [if_pos hk, Bool.and_eq_true] at h
  exact h.1
theorem needs12_spec (t : Tkt) (n : Nat) (hm : t.mayB = true) (h1 : 1 ≤ n) (h4 : n ≤ 4) (hn : t.cmd.keys.length ≤ 1000) (hks : ∀ k ∈ t.cmd.keys, k.length ≤ 100000) (H : Heap) : WC Try.prog 39 [t.av, .int .i64 n] H fun r H' => r = (Enc.int .i64).lst (shardsL t n) ∧ H' = H := by
  refine WC_val fun K hK => ?_
  by_cases k1 : t.kind = 1
  · have nd := fun J => refNeeds_spec t.cmd n h4 hn hks J
    have hE : shE t.cmd n = 0 := shE_ok.2 ⟨mayB_cmd hm k1, by omega, by omega⟩
    rw [show shardsL t n = needL t.cmd n n by unfold shardsL; rw [if_pos k1]; unfold shL; rw [if_pos hE, Int.toNat_natCast]] at hK
    generalize needL t.cmd n n = L at *
    unfold Tkt.av Cmd.av at *
    rw [k1]
    clear k1 hE hm
    refine WC_of_body hT Try.func39 rfl (by simp [Try.f39]) (by simp [Try.f39]) (wx_sound hT _ ?_)
    simp only [Try.f39]
    repeat' (first | simp only [go_sem, Nat.reduceLT, Nat.reduceEqDiff, Nat.reduceAdd, Nat.reduceMul, Nat.reduceSub, Nat.reduceLeDiff, Int.reduceToNat, Int.reduceNeg, Int.reduceLT, Int.reduceLE, Int.reduceEq, reduceCtorEq, Int.natCast_zero, Int.natCast_one, Int.cast_ofNat_Int, Bool.not_not, false_eq_decide, true_eq_decide, hread0, hreadk, read_cons0, read_consk, astore_h0, astore_hk, hget0, hgetk, hset0, hsetk, hlen, hcat, Nat.add_assoc, Nat.add_zero, Nat.zero_add, List.length_append, and_true, true_and, AV.flat, *, -hK, -nd, -hks] | refine WC.call (nd _) ?_ | with_reducible refine IfB_dec (fun h => ?_) (fun h => ?_) | with_reducible refine Guard_dec (fun h => ?_) (fun h => ?_) | with_reducible refine Guard_ndec (fun h => ?_) (fun h => ?_) | with_reducible refine Guard_not (fun h => ?_) (fun h => ?_) | with_reducible refine IfB_ndec (fun h => ?_) (fun h => ?_) | with_reducible refine IfB_not (fun h => ?_) (fun h => ?_) | with_reducible refine Guard_split (fun h => ?_) (fun h => ?_) | with_reducible refine IfB_split (fun h => ?_) (fun h => ?_))
    exact hK _ _ (.atom _ rfl) (Keep.app _ _ _)
  rw [show shardsL t n = rangeI n by unfold shardsL; rw [if_neg k1]] at hK
  unfold Tkt.av
  refine WC_of_body hT Try.func39 rfl (by simp [Try.f39]) (by simp [Try.f39]) (wx_sound hT _ ?_)
  simp only [Try.f39]
  repeat' (first | simp only [go_sem, Nat.reduceLT, Nat.reduceEqDiff, Nat.reduceAdd, Nat.reduceMul, Nat.reduceSub, Nat.reduceLeDiff, Int.reduceToNat, Int.reduceNeg, Int.reduceLT, Int.reduceLE, Int.reduceEq, reduceCtorEq, Int.natCast_zero, Int.natCast_one, Int.cast_ofNat_Int, Bool.not_not, false_eq_decide, true_eq_decide, hread0, hreadk, read_cons0, read_consk, astore_h0, astore_hk, hget0, hgetk, hset0, hsetk, hlen, hcat, Nat.add_assoc, Nat.add_zero, Nat.zero_add, List.length_append, and_true, true_and, AV.flat, *, -hK, -hks, -hm] | with_reducible refine IfB_dec (fun h => ?_) (fun h => ?_) | with_reducible refine Guard_dec (fun h => ?_) (fun h => ?_) | with_reducible refine Guard_ndec (fun h => ?_) (fun h => ?_) | with_reducible refine Guard_not (fun h => ?_) (fun h => ?_) | with_reducible refine IfB_ndec (fun h => ?_) (fun h => ?_) | with_reducible refine IfB_not (fun h => ?_) (fun h => ?_) | with_reducible refine Guard_split (fun h => ?_) (fun h => ?_) | with_reducible refine IfB_split (fun h => ?_) (fun h => ?_))
  have kG : Keep none H (H ++ [(⟨t.cs, 0, .full⟩ : Blk)]) := Keep.app _ _ _
  have hGl : H.length ≤ (H ++ [(⟨t.cs, 0, .full⟩ : Blk)]).length := by simp
  unfold Tkt.cs at kG hGl
  generalize (H ++ [(⟨[.int .i64 t.num, .int .u8 t.kind, .int .u8 t.cmd.kind, .int .i64 t.cmd.ten, Enc.str.lst t.cmd.keys, .str t.cmd.val, .int .u32 t.cmd.flags, .int .i64 t.cmd.for_, .int .u64 t.cmd.uniq, .int .u64 t.cmd.by_, .int .i64 t.ten, .int .i64 t.to], 0, .full⟩ : Blk)] : Heap) = G at *
  refine WX_loopS [1] (fun kn fr' J => ∃ (i : Nat) (w : AV), kn = n - i ∧ i ≤ n ∧ fr'.get 6 = .int .i64 i ∧ fr'.get 5 = w ∧ OwnE (Enc.int .i64) H.length J w (rangeI i) ∧ Keep none H J) n ⟨0, .nils, rfl, by omega, by simp only [go_sem, Nat.reduceLT, Nat.reduceEqDiff, Nat.reduceAdd, Nat.reduceMul, Nat.reduceSub, Nat.reduceLeDiff, Int.reduceToNat, Int.reduceNeg, Int.reduceLT, Int.reduceLE, Int.reduceEq, reduceCtorEq]; rfl, by simp only [go_sem, Nat.reduceLT, Nat.reduceEqDiff, Nat.reduceAdd, Nat.reduceMul, Nat.reduceSub, Nat.reduceLeDiff, Int.reduceToNat, Int.reduceNeg, Int.reduceLT, Int.reduceLE, Int.reduceEq, reduceCtorEq], OwnE.nils _ _ _, kG⟩ ?_
  clear kG hGl
  rintro kn fr' J A R hA hs hg hR ⟨i, w, rfl, hi, f6, f5, ow, kJ⟩
  have s1 := hg 1 (by decide)
  simp only [Fr.get_put, Fr.get_init, List.getD_cons_zero, List.getD_cons_succ, Nat.reduceEqDiff, if_true, if_false] at s1
  refine wx_sound hT _ ?_
  have hwo := ow.one
  by_cases hlt : i < n
  rotate_left
  · have i1 : ¬ (i : Int) < n := by omega
    have hie : i = n := by omega
    rw [hie] at ow
    repeat' (first | simp only [go_sem, Nat.reduceLT, Nat.reduceEqDiff, Nat.reduceAdd, Nat.reduceMul, Nat.reduceSub, Nat.reduceLeDiff, Int.reduceToNat, Int.reduceNeg, Int.reduceLT, Int.reduceLE, Int.reduceEq, reduceCtorEq, Int.natCast_zero, Int.natCast_one, Int.cast_ofNat_Int, Bool.not_not, false_eq_decide, true_eq_decide, hread0, hreadk, read_cons0, read_consk, astore_h0, astore_hk, hget0, hgetk, hset0, hsetk, hlen, hcat, Nat.add_assoc, Nat.add_zero, Nat.zero_add, List.length_append, and_true, true_and, AV.flat, hwo, one_solid hwo, one_cells hwo, *, -hK, -ow, -kJ, -hlt, -hie, -hks, -hm] | with_reducible refine IfB_dec (fun h => ?_) (fun h => ?_) | with_reducible refine Guard_dec (fun h => ?_) (fun h => ?_) | with_reducible refine Guard_ndec (fun h => ?_) (fun h => ?_) | with_reducible refine Guard_not (fun h => ?_) (fun h => ?_) | with_reducible refine IfB_ndec (fun h => ?_) (fun h => ?_) | with_reducible refine IfB_not (fun h => ?_) (fun h => ?_) | with_reducible refine Guard_split (fun h => ?_) (fun h => ?_) | with_reducible refine IfB_split (fun h => ?_) (fun h => ?_))
    exact hK _ _ (OwnE.thaw (E := Enc.int .i64) ow (by decide)) kJ
  have i1 : (i : Int) < n := by omega
  have e3 := inc_id hlt (by omega)
  have hst := rangeI_step i
  have hln := rangeI_len i
  have back : ∀ fr2 J2 w2, A fr2 → fr2.get 6 = .int .i64 ((i + 1 : Nat) : Int) → fr2.get 5 = w2 → OwnE (Enc.int .i64) H.length J2 w2 (rangeI i ++ [(i : Int)]) → Keep none H J2 → R fr2 J2 := fun fr2 J2 w2 ha q1 q2 q3 q4 => hR fr2 J2 ha (n - (i + 1)) (by omega) ⟨i + 1, w2, rfl, by omega, q1, q2, by rw [hst]; exact q3, q4⟩
  clear hR hst
  generalize rangeI i = acc at *
  have hJl := kJ.len
  repeat' (first | simp only [go_sem, Nat.reduceLT, Nat.reduceEqDiff, Nat.reduceAdd, Nat.reduceMul, Nat.reduceSub, Nat.reduceLeDiff, Int.reduceToNat, Int.reduceNeg, Int.reduceLT, Int.reduceLE, Int.reduceEq, reduceCtorEq, Int.natCast_zero, Int.natCast_one, Int.cast_ofNat_Int, Bool.not_not, false_eq_decide, true_eq_decide, hread0, hreadk, read_cons0, read_consk, astore_h0, astore_hk, hget0, hgetk, hset0, hsetk, hlen, hcat, Nat.add_assoc, Nat.add_zero, Nat.zero_add, List.length_append, and_true, true_and, AV.flat, hwo, one_solid hwo, one_cells hwo, *, -hK, -ow, -kJ, -hlt, -back, -hJl, -hln, -hks, -hm] | with_reducible refine IfB_dec (fun h => ?_) (fun h => ?_) | with_reducible refine Guard_dec (fun h => ?_) (fun h => ?_) | with_reducible refine Guard_ndec (fun h => ?_) (fun h => ?_) | with_reducible refine Guard_not (fun h => ?_) (fun h => ?_) | with_reducible refine IfB_ndec (fun h => ?_) (fun h => ?_) | with_reducible refine IfB_not (fun h => ?_) (fun h => ?_) | with_reducible refine Guard_split (fun h => ?_) (fun h => ?_) | with_reducible refine IfB_split (fun h => ?_) (fun h => ?_))
  refine append1_enc (E := Enc.int .i64) (x := (i : Int)) ow rfl se27 az3 td3 tk27 rfl rfl (by decide) (by show (acc.length + 1) * 9 ≤ _; omega) hJl ?_
  intro v5 H5 o5 k5 hn5
  have hv5 := o5.one
  repeat' (first | simp only [go_sem, Nat.reduceLT, Nat.reduceEqDiff, Nat.reduceAdd, Nat.reduceMul, Nat.reduceSub, Nat.reduceLeDiff, Int.reduceToNat, Int.reduceNeg, Int.reduceLT, Int.reduceLE, Int.reduceEq, reduceCtorEq, Int.natCast_zero, Int.natCast_one, Int.cast_ofNat_Int, Bool.not_not, false_eq_decide, true_eq_decide, hread0, hreadk, read_cons0, read_consk, astore_h0, astore_hk, hget0, hgetk, hset0, hsetk, hlen, hcat, Nat.add_assoc, Nat.add_zero, Nat.zero_add, List.length_append, and_true, true_and, AV.flat, hv5, one_solid hv5, one_cells hv5, *, -hK, -ow, -kJ, -hlt, -back, -hJl, -o5, -k5, -hn5, -hln, -hks, -hm] | with_reducible refine IfB_dec (fun h => ?_) (fun h => ?_) | with_reducible refine Guard_dec (fun h => ?_) (fun h => ?_) | with_reducible refine Guard_ndec (fun h => ?_) (fun h => ?_) | with_reducible refine Guard_not (fun h => ?_) (fun h => ?_) | with_reducible refine IfB_ndec (fun h => ?_) (fun h => ?_) | with_reducible refine IfB_not (fun h => ?_) (fun h => ?_) | with_reducible refine Guard_split (fun h => ?_) (fun h => ?_) | with_reducible refine IfB_split (fun h => ?_) (fun h => ?_))
  exact back _ _ _ (by (repeat (first | exact hs | refine hA _ _ _ (by decide) ?_))) (by simp only [go_sem, Nat.reduceLT, Nat.reduceEqDiff, Nat.reduceAdd, Nat.reduceMul, Nat.reduceSub, Nat.reduceLeDiff, Int.reduceToNat, Int.reduceNeg, Int.reduceLT, Int.reduceLE, Int.reduceEq, reduceCtorEq]) rfl (by simp only [go_sem, Nat.reduceLT, Nat.reduceEqDiff, Nat.reduceAdd, Nat.reduceMul, Nat.reduceSub, Nat.reduceLeDiff, Int.reduceToNat, Int.reduceNeg, Int.reduceLT, Int.reduceLE, Int.reduceEq, reduceCtorEq]; exact o5) (kJ.via k5 (fun b hb => by have := ow.ge hb; omega))
theorem need12_spec (t : Tkt) (s : Int) (n : Nat) (hm : t.mayB = true) (h1 : 1 ≤ n) (h4 : n ≤ 4) (hn : t.cmd.keys.length ≤ 1000) (hks : ∀ k ∈ t.cmd.keys, k.length ≤ 100000) (H : Heap) : WC Try.prog 58 [t.av, .int .i64 s, .int .i64 n] H fun r H' => r = .bool (decide (s ∈ shardsL t n)) ∧ H' = H := by
  refine WC_val fun K hK => ?_
  have nd := fun J => needs12_spec t n hm h1 h4 hn hks J
  have hll := shardsL_len t n
  generalize shardsL t n = l at *
  unfold Tkt.av at *
  refine WC_of_body hT Try.func58 rfl (by simp [Try.f58]) (by simp [Try.f58]) (wx_sound hT _ ?_)
  simp only [Try.f58]
  repeat' (first | simp only [go_sem, Nat.reduceLT, Nat.reduceEqDiff, Nat.reduceAdd, Nat.reduceMul, Nat.reduceSub, Nat.reduceLeDiff, Int.reduceToNat, Int.reduceNeg, Int.reduceLT, Int.reduceLE, Int.reduceEq, reduceCtorEq, Int.natCast_zero, Int.natCast_one, Int.cast_ofNat_Int, Bool.not_not, false_eq_decide, true_eq_decide, hread0, hreadk, read_cons0, read_consk, astore_h0, astore_hk, hget0, hgetk, hset0, hsetk, hlen, hcat, Nat.add_assoc, Nat.add_zero, Nat.zero_add, List.length_append, and_true, true_and, AV.flat, *, -hK, -nd, -hks, -hm] | refine WC.call (nd _) ?_ | with_reducible refine IfB_dec (fun h => ?_) (fun h => ?_) | with_reducible refine Guard_dec (fun h => ?_) (fun h => ?_) | with_reducible refine Guard_ndec (fun h => ?_) (fun h => ?_) | with_reducible refine Guard_not (fun h => ?_) (fun h => ?_) | with_reducible refine IfB_ndec (fun h => ?_) (fun h => ?_) | with_reducible refine IfB_not (fun h => ?_) (fun h => ?_) | with_reducible refine Guard_split (fun h => ?_) (fun h => ?_) | with_reducible refine IfB_split (fun h => ?_) (fun h => ?_))
  have kG : Keep none H (H ++ [(⟨t.cs, 0, .full⟩ : Blk)]) := Keep.app _ _ _
  unfold Tkt.cs at kG
  generalize (H ++ [(⟨[.int .i64 t.num, .int .u8 t.kind, .int .u8 t.cmd.kind, .int .i64 t.cmd.ten, Enc.str.lst t.cmd.keys, .str t.cmd.val, .int .u32 t.cmd.flags, .int .i64 t.cmd.for_, .int .u64 t.cmd.uniq, .int .u64 t.cmd.by_, .int .i64 t.ten, .int .i64 t.to], 0, .full⟩ : Blk)] : Heap) = G at *
  clear nd
  refine WX_loopS [1, 7] (fun kn fr' J => ∃ i : Nat, kn = l.length - i ∧ i ≤ l.length ∧ fr'.get 8 = .int .i64 i ∧ J = G ∧ s ∉ l.take i) l.length ⟨0, rfl, by omega, by simp only [go_sem, Nat.reduceLT, Nat.reduceEqDiff, Nat.reduceAdd, Nat.reduceMul, Nat.reduceSub, Nat.reduceLeDiff, Int.reduceToNat, Int.reduceNeg, Int.reduceLT, Int.reduceLE, Int.reduceEq, reduceCtorEq]; rfl, rfl, by simp⟩ ?_
  rintro kn fr' J A R hA hs hg hR ⟨i, rfl, hi, f8, rfl, hno⟩
  have s1 := hg 1 (by decide)
  have s7 := hg 7 (by decide)
  simp only [Fr.get_put, Fr.get_init, List.getD_cons_zero, List.getD_cons_succ, Nat.reduceEqDiff, if_true, if_false] at s1 s7
  refine wx_sound hT _ ?_
  by_cases hlt : i < l.length
  rotate_left
  · have i1 : ¬ (i : Int) < l.length := by omega
    rw [List.take_of_length_le (by omega)] at hno
    rw [decide_eq_false hno] at hK
    repeat' (first | simp only [go_sem, Nat.reduceLT, Nat.reduceEqDiff, Nat.reduceAdd, Nat.reduceMul, Nat.reduceSub, Nat.reduceLeDiff, Int.reduceToNat, Int.reduceNeg, Int.reduceLT, Int.reduceLE, Int.reduceEq, reduceCtorEq, Int.natCast_zero, Int.natCast_one, Int.cast_ofNat_Int, Bool.not_not, false_eq_decide, true_eq_decide, hread0, hreadk, read_cons0, read_consk, astore_h0, astore_hk, hget0, hgetk, hset0, hsetk, hlen, hcat, Nat.add_assoc, Nat.add_zero, Nat.zero_add, List.length_append, and_true, true_and, AV.flat, *, -hK, -hno, -hlt, -kG, -hks, -hm] | with_reducible refine IfB_dec (fun h => ?_) (fun h => ?_) | with_reducible refine Guard_dec (fun h => ?_) (fun h => ?_) | with_reducible refine Guard_ndec (fun h => ?_) (fun h => ?_) | with_reducible refine Guard_not (fun h => ?_) (fun h => ?_) | with_reducible refine IfB_ndec (fun h => ?_) (fun h => ?_) | with_reducible refine IfB_not (fun h => ?_) (fun h => ?_) | with_reducible refine Guard_split (fun h => ?_) (fun h => ?_) | with_reducible refine IfB_split (fun h => ?_) (fun h => ?_))
    exact hK _ _ (.bool _) kG
  have i1 : (i : Int) < l.length := by omega
  have e3 := inc_id hlt (by omega)
  have e1 := at_enc (E := Enc.int .i64) (T := T) (k := .i64) se27 hlt rfl
  rw [int_cells] at e1
  have hin : l[i] = s → s ∈ l := fun e => e ▸ List.getElem_mem hlt
  have hst : l[i] ≠ s → s ∉ l.take (i + 1) := fun h hm => by
    rw [List.take_succ_eq_append_getElem hlt] at hm
    rcases List.mem_append.1 hm with hm | hm
    · exact hno hm
    · exact h (List.mem_singleton.1 hm).symm
  have back : s ∉ l.take (i + 1) → ∀ fr2, A fr2 → fr2.get 8 = .int .i64 ((i + 1 : Nat) : Int) → R fr2 J := fun hn fr2 ha q1 => hR fr2 J ha (l.length - (i + 1)) (by omega) ⟨i + 1, rfl, by omega, q1, rfl, hn⟩
  clear hR
  generalize l[i] = x at *
  by_cases hx : x = s
  · have h1 := hin hx
    rw [decide_eq_true h1] at hK
    clear h1 hin hst
    repeat' (first | simp only [go_sem, Nat.reduceLT, Nat.reduceEqDiff, Nat.reduceAdd, Nat.reduceMul, Nat.reduceSub, Nat.reduceLeDiff, Int.reduceToNat, Int.reduceNeg, Int.reduceLT, Int.reduceLE, Int.reduceEq, reduceCtorEq, Int.natCast_zero, Int.natCast_one, Int.cast_ofNat_Int, Bool.not_not, false_eq_decide, true_eq_decide, hread0, hreadk, read_cons0, read_consk, astore_h0, astore_hk, hget0, hgetk, hset0, hsetk, hlen, hcat, Nat.add_assoc, Nat.add_zero, Nat.zero_add, List.length_append, and_true, true_and, AV.flat, *, -hK, -hno, -hlt, -kG, -hks, -hm, -back] | with_reducible refine IfB_dec (fun h => ?_) (fun h => ?_) | with_reducible refine Guard_dec (fun h => ?_) (fun h => ?_) | with_reducible refine Guard_ndec (fun h => ?_) (fun h => ?_) | with_reducible refine Guard_not (fun h => ?_) (fun h => ?_) | with_reducible refine IfB_ndec (fun h => ?_) (fun h => ?_) | with_reducible refine IfB_not (fun h => ?_) (fun h => ?_) | with_reducible refine Guard_split (fun h => ?_) (fun h => ?_) | with_reducible refine IfB_split (fun h => ?_) (fun h => ?_))
    exact hK _ _ (.bool _) kG
  · have back := back (hst hx)
    clear hin hst
    repeat' (first | simp only [go_sem, Nat.reduceLT, Nat.reduceEqDiff, Nat.reduceAdd, Nat.reduceMul, Nat.reduceSub, Nat.reduceLeDiff, Int.reduceToNat, Int.reduceNeg, Int.reduceLT, Int.reduceLE, Int.reduceEq, reduceCtorEq, Int.natCast_zero, Int.natCast_one, Int.cast_ofNat_Int, Bool.not_not, false_eq_decide, true_eq_decide, hread0, hreadk, read_cons0, read_consk, astore_h0, astore_hk, hget0, hgetk, hset0, hsetk, hlen, hcat, Nat.add_assoc, Nat.add_zero, Nat.zero_add, List.length_append, and_true, true_and, AV.flat, *, -hK, -hno, -hlt, -kG, -hks, -hm, -back] | with_reducible refine IfB_dec (fun h => ?_) (fun h => ?_) | with_reducible refine Guard_dec (fun h => ?_) (fun h => ?_) | with_reducible refine Guard_ndec (fun h => ?_) (fun h => ?_) | with_reducible refine Guard_not (fun h => ?_) (fun h => ?_) | with_reducible refine IfB_ndec (fun h => ?_) (fun h => ?_) | with_reducible refine IfB_not (fun h => ?_) (fun h => ?_) | with_reducible refine Guard_split (fun h => ?_) (fun h => ?_) | with_reducible refine IfB_split (fun h => ?_) (fun h => ?_))
    exact back _ (by (repeat (first | exact hs | refine hA _ _ _ (by decide) ?_))) (by simp only [go_sem, Nat.reduceLT, Nat.reduceEqDiff, Nat.reduceAdd, Nat.reduceMul, Nat.reduceSub, Nat.reduceLeDiff, Int.reduceToNat, Int.reduceNeg, Int.reduceLT, Int.reduceLE, Int.reduceEq, reduceCtorEq])
theorem sh12_spec (t : Tkt) (n : Int) (hn : t.cmd.keys.length ≤ 1000) (hks : ∀ k ∈ t.cmd.keys, k.length ≤ 100000) (H : Heap) : WC Try.prog 19 [t.av, .int .i64 n] H fun r H' => r = .tup [(Enc.int .i64).lst (tshL t n), .int .i64 (tshE t n)] ∧ H' = H := by
  refine WC_val fun K hK => ?_
  have my := fun J => may12_spec t hn J
  cases hm : t.mayB with
  | false =>
    rw [hm] at my
    rw [show tshL t n = [] by unfold tshL tshE; rw [hm]; rfl, show tshE t n = 8 by unfold tshE; rw [if_pos hm]] at hK
    unfold Tkt.av at *
    refine WC_of_body hT Try.func19 rfl (by simp [Try.f19]) (by simp [Try.f19]) (wx_sound hT _ ?_)
    simp only [Try.f19]
    repeat' (first | simp only [go_sem, Nat.reduceLT, Nat.reduceEqDiff, Nat.reduceAdd, Nat.reduceMul, Nat.reduceSub, Nat.reduceLeDiff, Int.reduceToNat, Int.reduceNeg, Int.reduceLT, Int.reduceLE, Int.reduceEq, reduceCtorEq, Int.natCast_zero, Int.natCast_one, Int.cast_ofNat_Int, Bool.not_not, false_eq_decide, true_eq_decide, hread0, hreadk, read_cons0, read_consk, astore_h0, astore_hk, hget0, hgetk, hset0, hsetk, hlen, hcat, Nat.add_assoc, Nat.add_zero, Nat.zero_add, List.length_append, and_true, true_and, AV.flat, *, -hK, -my, -hm] | refine WC.call (my _) ?_ | with_reducible refine IfB_dec (fun h => ?_) (fun h => ?_) | with_reducible refine Guard_dec (fun h => ?_) (fun h => ?_) | with_reducible refine Guard_ndec (fun h => ?_) (fun h => ?_) | with_reducible refine Guard_not (fun h => ?_) (fun h => ?_) | with_reducible refine IfB_ndec (fun h => ?_) (fun h => ?_) | with_reducible refine IfB_not (fun h => ?_) (fun h => ?_) | with_reducible refine Guard_split (fun h => ?_) (fun h => ?_) | with_reducible refine IfB_split (fun h => ?_) (fun h => ?_))
    exact hK _ _ (Thaw.tup_row ⟨.nils, .int _ _, trivial⟩) (Keep.app _ _ _)
  | true =>
  rw [hm] at my
  by_cases i1 : n < 1
  · have hE : tshE t n = 2 := by unfold tshE; rw [hm, if_neg (by decide), if_pos (.inl i1)]
    rw [show tshL t n = [] by unfold tshL; rw [hE]; rfl, hE] at hK
    unfold Tkt.av at *
    refine WC_of_body hT Try.func19 rfl (by simp [Try.f19]) (by simp [Try.f19]) (wx_sound hT _ ?_)
    simp only [Try.f19]
    repeat' (first | simp only [go_sem, Nat.reduceLT, Nat.reduceEqDiff, Nat.reduceAdd, Nat.reduceMul, Nat.reduceSub, Nat.reduceLeDiff, Int.reduceToNat, Int.reduceNeg, Int.reduceLT, Int.reduceLE, Int.reduceEq, reduceCtorEq, Int.natCast_zero, Int.natCast_one, Int.cast_ofNat_Int, Bool.not_not, false_eq_decide, true_eq_decide, hread0, hreadk, read_cons0, read_consk, astore_h0, astore_hk, hget0, hgetk, hset0, hsetk, hlen, hcat, Nat.add_assoc, Nat.add_zero, Nat.zero_add, List.length_append, and_true, true_and, AV.flat, *, -hK, -my, -hm] | refine WC.call (my _) ?_ | with_reducible refine IfB_dec (fun h => ?_) (fun h => ?_) | with_reducible refine Guard_dec (fun h => ?_) (fun h => ?_) | with_reducible refine Guard_ndec (fun h => ?_) (fun h => ?_) | with_reducible refine Guard_not (fun h => ?_) (fun h => ?_) | with_reducible refine IfB_ndec (fun h => ?_) (fun h => ?_) | with_reducible refine IfB_not (fun h => ?_) (fun h => ?_) | with_reducible refine Guard_split (fun h => ?_) (fun h => ?_) | with_reducible refine IfB_split (fun h => ?_) (fun h => ?_))
    exact hK _ _ (Thaw.tup_row ⟨.nils, .int _ _, trivial⟩) (Keep.app _ _ _)
  by_cases i2 : n > 4
  · have hE : tshE t n = 2 := by unfold tshE; rw [hm, if_neg (by decide), if_pos (.inr i2)]
    rw [show tshL t n = [] by unfold tshL; rw [hE]; rfl, hE] at hK
    unfold Tkt.av at *
    refine WC_of_body hT Try.func19 rfl (by simp [Try.f19]) (by simp [Try.f19]) (wx_sound hT _ ?_)
    simp only [Try.f19]
    repeat' (first | simp only [go_sem, Nat.reduceLT, Nat.reduceEqDiff, Nat.reduceAdd, Nat.reduceMul, Nat.reduceSub, Nat.reduceLeDiff, Int.reduceToNat, Int.reduceNeg, Int.reduceLT, Int.reduceLE, Int.reduceEq, reduceCtorEq, Int.natCast_zero, Int.natCast_one, Int.cast_ofNat_Int, Bool.not_not, false_eq_decide, true_eq_decide, hread0, hreadk, read_cons0, read_consk, astore_h0, astore_hk, hget0, hgetk, hset0, hsetk, hlen, hcat, Nat.add_assoc, Nat.add_zero, Nat.zero_add, List.length_append, and_true, true_and, AV.flat, *, -hK, -my, -hm] | refine WC.call (my _) ?_ | with_reducible refine IfB_dec (fun h => ?_) (fun h => ?_) | with_reducible refine Guard_dec (fun h => ?_) (fun h => ?_) | with_reducible refine Guard_ndec (fun h => ?_) (fun h => ?_) | with_reducible refine Guard_not (fun h => ?_) (fun h => ?_) | with_reducible refine IfB_ndec (fun h => ?_) (fun h => ?_) | with_reducible refine IfB_not (fun h => ?_) (fun h => ?_) | with_reducible refine Guard_split (fun h => ?_) (fun h => ?_) | with_reducible refine IfB_split (fun h => ?_) (fun h => ?_))
    exact hK _ _ (Thaw.tup_row ⟨.nils, .int _ _, trivial⟩) (Keep.app _ _ _)
  have hE : tshE t n = 0 := by unfold tshE; rw [hm, if_neg (by decide), if_neg (by omega)]
  rw [show tshL t n = shardsL t n.toNat by unfold tshL; rw [if_pos hE], hE] at hK
  obtain ⟨k, rfl⟩ : ∃ k : Nat, n = k := ⟨n.toNat, by omega⟩
  rw [Int.toNat_natCast] at hK
  have sh := fun J => needs12_spec t k hm (by omega) (by omega) hn hks J
  unfold Tkt.av at *
  refine WC_of_body hT Try.func19 rfl (by simp [Try.f19]) (by simp [Try.f19]) (wx_sound hT _ ?_)
  simp only [Try.f19]
  repeat' (first | simp only [go_sem, Nat.reduceLT, Nat.reduceEqDiff, Nat.reduceAdd, Nat.reduceMul, Nat.reduceSub, Nat.reduceLeDiff, Int.reduceToNat, Int.reduceNeg, Int.reduceLT, Int.reduceLE, Int.reduceEq, reduceCtorEq, Int.natCast_zero, Int.natCast_one, Int.cast_ofNat_Int, Bool.not_not, false_eq_decide, true_eq_decide, hread0, hreadk, read_cons0, read_consk, astore_h0, astore_hk, hget0, hgetk, hset0, hsetk, hlen, hcat, Nat.add_assoc, Nat.add_zero, Nat.zero_add, List.length_append, and_true, true_and, AV.flat, *, -hK, -my, -hm, -sh] | refine WC.call (my _) ?_ | refine WC.call (sh _) ?_ | with_reducible refine IfB_dec (fun h => ?_) (fun h => ?_) | with_reducible refine Guard_dec (fun h => ?_) (fun h => ?_) | with_reducible refine Guard_ndec (fun h => ?_) (fun h => ?_) | with_reducible refine Guard_not (fun h => ?_) (fun h => ?_) | with_reducible refine IfB_ndec (fun h => ?_) (fun h => ?_) | with_reducible refine IfB_not (fun h => ?_) (fun h => ?_) | with_reducible refine Guard_split (fun h => ?_) (fun h => ?_) | with_reducible refine IfB_split (fun h => ?_) (fun h => ?_))
  exact hK _ _ (Thaw.tup_row (l' := [_, _]) ⟨.atom _ rfl, .int _ _, trivial⟩) (Keep.app _ _ _)

end Go.Proofs.Ytkmkhiipiflelaa

