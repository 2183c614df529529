import Derived.Test.YtkkgkljikmhldaaOrderG
set_option linter.unusedSimpArgs false
set_option linter.unusedVariables false
set_option maxRecDepth 100000
set_option maxHeartbeats 2000000
namespace Go.Proofs.Ytkkgkljikmhldaa
open Go Go.Proofs Go.Proofs.PI
theorem shL_len (c : Cmd) (n : Int) : (shL c n).length ≤ 4 := by
  unfold shL
  split
  · rename_i h
    have := needL_len c n n.toNat
    have : n ≤ 4 := by
      unfold shE at h
      split at h
      · cases h
      · split at h
        · cases h
        · omega
    omega
  · simp
theorem shards_spec (c : Cmd) (n : Int) (hn : c.keys.length ≤ 1000) (hks : ∀ k ∈ c.keys, k.length ≤ 100000) (H : Heap) : WC Try.prog 7 [c.av, .int .i64 n] H fun r H' => r = .tup [(Enc.int .i64).lst (shL c n), .int .i64 (shE c n)] ∧ H' = H :=
  WC_froze (Q := fun r => r = _) ((shards_own c n hn hks H).mono fun r H' ⟨v, h1, h2, h3⟩ => ⟨_, by rw [h1]; exact Thaw.tup_row ⟨h2.thaw (by decide), .int _ _, trivial⟩, h3, rfl⟩)
def Cmd.cs2 (c : Cmd) : List AV := [.int .u8 c.kind, .int .i64 c.ten, .nils, .str c.val, .int .u32 c.flags, .int .i64 c.for_, .int .u64 c.uniq, .int .u64 c.by_]
theorem pieceK_step {c : Cmd} {sh n : Int} {l : List (List UInt8)} {i : Nat} (h : i < l.length) : pieceK c sh n (l.take (i + 1)) = pieceK c sh n (l.take i) ++ if (shardL c.ten l[i] n).1 = sh then [l[i]] else [] := by
  rw [pieceK, List.take_succ_eq_append_getElem h, List.filter_append]
  congr 1
  by_cases h : (shardL c.ten l[i] n).1 = sh <;> simp [h]
theorem pieceK_len (c : Cmd) (sh n : Int) (l : List (List UInt8)) : (pieceK c sh n l).length ≤ l.length := List.length_filter_le _ _
theorem part_own (c : Cmd) (sh n : Int) (hn : c.keys.length ≤ 1000) (hks : ∀ k ∈ c.keys, k.length ≤ 100000) (H : Heap) : WC Try.prog 9 [c.av, .int .i64 sh, .int .i64 n] H fun r H' => ∃ a, r = .tup [a, .int .i64 (partE c sh n)] ∧ OwnC H.length H' a (partL c sh n) ∧ Keep none H H' := by
  refine WC_of_K fun K hK => ?_
  have hshL := shL_len c n
  have hbad : partE c sh n ≠ 0 → ∀ J, OwnC H.length J (.agg [.int .u8 0, .int .i64 0, .nils, .str [], .int .u32 0, .int .i64 0, .int .u64 0, .int .u64 0]) (partL c sh n) := fun h J => by
    rw [partL, if_neg h]; exact ⟨.nils, rfl, OwnE.nils _ _ _⟩
  have hpE : partE c sh n = if shE c n ≠ 0 then shE c n else if sh ∈ shL c n then 0 else 2 := rfl
  have hpL : partE c sh n = 0 → partL c sh n = c.with (pieceK c sh n c.keys) := fun h => if_pos h
  have hs := fun J => shards_spec c n hn hks J
  generalize shE c n = e at *
  generalize shL c n = sl at *
  generalize partL c sh n = pl at *
  refine WC_of_body hT Try.func9 rfl (by simp [Try.f9]) (by simp [Try.f9]) (wx_sound hT _ ?_)
  simp only [Try.f9]
  repeat' (first | simp only [go_sem, Nat.reduceLT, Nat.reduceEqDiff, Nat.reduceAdd, Nat.reduceMul, Nat.reduceSub, Nat.reduceLeDiff, Int.reduceToNat, Int.reduceNeg, Int.reduceLT, Int.reduceLE, Int.reduceEq, reduceCtorEq, Int.natCast_zero, Int.natCast_one, Int.cast_ofNat_Int, Bool.not_not, false_eq_decide, true_eq_decide, hread0, hreadk, read_cons0, read_consk, astore_h0, astore_hk, hget0, hgetk, hset0, hsetk, hlen, hcat, Nat.add_assoc, Nat.add_zero, Nat.zero_add, List.length_append, and_true, true_and, AV.flat, Cmd.av, *, -hK, -hbad, -hpE, -hpL, -hs] | refine WC.call (hs _) ?_ | refine WC.call (intHas_spec sl sh (by omega) _) ?_ | with_reducible refine IfB_dec (fun h => ?_) (fun h => ?_) | with_reducible refine Guard_dec (fun h => ?_) (fun h => ?_) | with_reducible refine Guard_ndec (fun h => ?_) (fun h => ?_) | with_reducible refine Guard_not (fun h => ?_) (fun h => ?_) | with_reducible refine IfB_ndec (fun h => ?_) (fun h => ?_) | with_reducible refine IfB_not (fun h => ?_) (fun h => ?_) | with_reducible refine Guard_split (fun h => ?_) (fun h => ?_) | with_reducible refine IfB_split (fun h => ?_) (fun h => ?_))
  case refine_1 =>
    have h1 : partE c sh n = e := by rw [hpE, if_pos h]
    exact hK _ _ ⟨_, by rw [h1], hbad (by rw [h1]; exact h) _, Keep.app _ _ _⟩
  case refine_2.refine_1 =>
    have h0 : e = 0 := by assumption
    have h1 : partE c sh n = 2 := by rw [hpE, if_neg (by simp [h0]), if_neg (by assumption)]
    exact hK _ _ ⟨_, by rw [h1], hbad (by rw [h1]; decide) _, Keep.app _ _ _⟩
  case refine_2.refine_2 =>
    have h0 : e = 0 := by assumption
    have h1 : partE c sh n = 0 := by rw [hpE, if_neg (by simp [h0]), if_pos (by assumption)]
    have h2 := hpL h1
    subst h2
    clear hbad hpE hpL hs
    rw [h1] at hK
    clear h1
    refine WX_loopS [1, 2, 3, 6, 7, 31, 32] (fun k fr' H' => ∃ (i : Nat) (v : AV), k = c.keys.length - i ∧ i ≤ c.keys.length ∧ fr'.get 33 = .int .i64 i ∧ fr'.get 10 = v ∧ OwnE Enc.str (H.length + 2) H' v (pieceK c sh n (c.keys.take i)) ∧ Keep none (H ++ [⟨c.cs, 0, .full⟩, ⟨cmd0.cs2, 0, .full⟩]) H') c.keys.length ⟨0, .nils, rfl, by omega, by simp only [go_sem, Nat.reduceLT, Nat.reduceEqDiff, Nat.reduceAdd, Nat.reduceMul, Nat.reduceSub, Nat.reduceLeDiff, Int.reduceToNat, Int.reduceNeg, Int.reduceLT, Int.reduceLE, Int.reduceEq, reduceCtorEq]; rfl, by simp only [go_sem, Nat.reduceLT, Nat.reduceEqDiff, Nat.reduceAdd, Nat.reduceMul, Nat.reduceSub, Nat.reduceLeDiff, Int.reduceToNat, Int.reduceNeg, Int.reduceLT, Int.reduceLE, Int.reduceEq, reduceCtorEq], OwnE.nils _ _ _, Keep.refl _ _⟩ ?_
    rintro k fr' H' A R hA hs hg hR ⟨i, v, rfl, hi, f33, f10, ho, kk⟩
    have s1 := hg 1 (by decide)
    have s2 := hg 2 (by decide)
    have s3 := hg 3 (by decide)
    have s6 := hg 6 (by decide)
    have s7 := hg 7 (by decide)
    have s31 := hg 31 (by decide)
    have s32 := hg 32 (by decide)
    simp only [Fr.get_put, Fr.get_init, List.getD_cons_zero, List.getD_cons_succ, Nat.reduceEqDiff, if_true, if_false] at s1 s2 s3 s6 s7 s31 s32
    have hb0 : H'[H.length]? = some ⟨c.cs, 0, .full⟩ := kk.get (by rw [hget0]; rfl) (by simp)
    have hb1 : H'[H.length + 1]? = some ⟨cmd0.cs2, 0, .full⟩ := kk.get (by rw [hgetk]; rfl) (by simp)
    unfold Cmd.cs at hb0
    unfold Cmd.cs2 cmd0 at hb1
    have hv1 := ho.one
    have hlen := kk.len
    simp only [List.length_append, List.length_cons, List.length_nil] at hlen
    have hge : ∀ b, v.blk = some b → H.length + 2 ≤ b := fun b hb => ho.ge hb
    refine wx_sound hT _ ?_
    repeat' (first | simp only [go_sem, Nat.reduceLT, Nat.reduceEqDiff, Nat.reduceAdd, Nat.reduceMul, Nat.reduceSub, Nat.reduceLeDiff, Int.reduceToNat, Int.reduceNeg, Int.reduceLT, Int.reduceLE, Int.reduceEq, reduceCtorEq, Int.natCast_zero, Int.natCast_one, Int.cast_ofNat_Int, Bool.not_not, false_eq_decide, true_eq_decide, hread0, hreadk, read_cons0, read_consk, astore_h0, astore_hk, hget0, hgetk, hset0, hsetk, hlen, hcat, Nat.add_assoc, Nat.add_zero, Nat.zero_add, List.length_append, and_true, true_and, AV.flat, *, -hK] | with_reducible refine IfB_dec (fun h => ?_) (fun h => ?_) | with_reducible refine Guard_dec (fun h => ?_) (fun h => ?_) | with_reducible refine Guard_ndec (fun h => ?_) (fun h => ?_) | with_reducible refine Guard_not (fun h => ?_) (fun h => ?_) | with_reducible refine IfB_ndec (fun h => ?_) (fun h => ?_) | with_reducible refine IfB_not (fun h => ?_) (fun h => ?_) | with_reducible refine Guard_split (fun h => ?_) (fun h => ?_) | with_reducible refine IfB_split (fun h => ?_) (fun h => ?_))
    case refine_1 =>
      have hlt : i < c.keys.length := by omega
      have e1 := at_enc (E := Enc.str) (k := .i64) se22 hlt rfl
      have e3 := inc_id hlt (show c.keys.length ≤ 140737488355328 by omega)
      have hstep := pieceK_step (c := c) (sh := sh) (n := n) hlt
      have hpl := pieceK_len c sh n (c.keys.take i)
      rw [List.length_take] at hpl
      have hof := fun J => of_spec c c.keys[i] n (hks _ (List.getElem_mem hlt)) J
      unfold Cmd.av at hof
      by_cases hq : (shardL c.ten c.keys[i] n).1 = sh
      · rw [if_pos hq] at hstep
        repeat' (first | simp only [go_sem, Nat.reduceLT, Nat.reduceEqDiff, Nat.reduceAdd, Nat.reduceMul, Nat.reduceSub, Nat.reduceLeDiff, Int.reduceToNat, Int.reduceNeg, Int.reduceLT, Int.reduceLE, Int.reduceEq, reduceCtorEq, Int.natCast_zero, Int.natCast_one, Int.cast_ofNat_Int, Bool.not_not, false_eq_decide, true_eq_decide, hread0, hreadk, read_cons0, read_consk, astore_h0, astore_hk, hget0, hgetk, hset0, hsetk, hlen, hcat, Nat.add_assoc, Nat.add_zero, Nat.zero_add, List.length_append, and_true, true_and, AV.flat, str_cells, hb0, get_app hb0, read_get hb0, read_app hb0, hv1, one_solid hv1, one_cells hv1, *, -hK, -hstep, -hof] | refine WC.call (hof _) ?_ | with_reducible refine IfB_dec (fun h => ?_) (fun h => ?_) | with_reducible refine Guard_dec (fun h => ?_) (fun h => ?_) | with_reducible refine Guard_ndec (fun h => ?_) (fun h => ?_) | with_reducible refine Guard_not (fun h => ?_) (fun h => ?_) | with_reducible refine IfB_ndec (fun h => ?_) (fun h => ?_) | with_reducible refine IfB_not (fun h => ?_) (fun h => ?_) | with_reducible refine Guard_split (fun h => ?_) (fun h => ?_) | with_reducible refine IfB_split (fun h => ?_) (fun h => ?_))
        refine append_enc (E := Enc.str) (ys := [c.keys[i]]) (ho.keep0 (Keep.app none H' _)) se22 az9 td9 (by simp only [go_sem, Nat.reduceLT, Nat.reduceEqDiff, Nat.reduceAdd, Nat.reduceMul, Nat.reduceSub, Nat.reduceLeDiff, Int.reduceToNat, Int.reduceNeg, Int.reduceLT, Int.reduceLE, Int.reduceEq, reduceCtorEq, Int.natCast_zero, Int.natCast_one, Int.cast_ofNat_Int, Bool.not_not, false_eq_decide, true_eq_decide, hread0, hreadk, read_cons0, read_consk, astore_h0, astore_hk, hget0, hgetk, hset0, hsetk, hlen, hcat, Nat.add_assoc, Nat.add_zero, Nat.zero_add, List.length_append, and_true, true_and, AV.flat, asrc]; rfl) (by decide) (by show (_ + 1) * 17 ≤ _; omega) (by simp only [List.length_append, List.length_cons, List.length_nil]; omega) ?_
        intro v2 H2 o2 k2 hn2
        have hv2 := o2.one
        repeat' (first | simp only [go_sem, Nat.reduceLT, Nat.reduceEqDiff, Nat.reduceAdd, Nat.reduceMul, Nat.reduceSub, Nat.reduceLeDiff, Int.reduceToNat, Int.reduceNeg, Int.reduceLT, Int.reduceLE, Int.reduceEq, reduceCtorEq, Int.natCast_zero, Int.natCast_one, Int.cast_ofNat_Int, Bool.not_not, false_eq_decide, true_eq_decide, hread0, hreadk, read_cons0, read_consk, astore_h0, astore_hk, hget0, hgetk, hset0, hsetk, hlen, hcat, Nat.add_assoc, Nat.add_zero, Nat.zero_add, List.length_append, and_true, true_and, AV.flat, hv2, one_solid hv2, one_cells hv2, hv1, one_solid hv1, one_cells hv1, *, -hK, -hstep] | with_reducible refine IfB_dec (fun h => ?_) (fun h => ?_) | with_reducible refine Guard_dec (fun h => ?_) (fun h => ?_) | with_reducible refine Guard_ndec (fun h => ?_) (fun h => ?_) | with_reducible refine Guard_not (fun h => ?_) (fun h => ?_) | with_reducible refine IfB_ndec (fun h => ?_) (fun h => ?_) | with_reducible refine IfB_not (fun h => ?_) (fun h => ?_) | with_reducible refine Guard_split (fun h => ?_) (fun h => ?_) | with_reducible refine IfB_split (fun h => ?_) (fun h => ?_))
        refine hR _ _ (by (repeat (first | exact hs | refine hA _ _ _ (by decide) ?_))) (c.keys.length - (i + 1)) (by omega) ⟨i + 1, v2, rfl, by omega, by simp only [go_sem, Nat.reduceLT, Nat.reduceEqDiff, Nat.reduceAdd, Nat.reduceMul, Nat.reduceSub, Nat.reduceLeDiff, Int.reduceToNat, Int.reduceNeg, Int.reduceLT, Int.reduceLE, Int.reduceEq, reduceCtorEq], by simp only [go_sem, Nat.reduceLT, Nat.reduceEqDiff, Nat.reduceAdd, Nat.reduceMul, Nat.reduceSub, Nat.reduceLeDiff, Int.reduceToNat, Int.reduceNeg, Int.reduceLT, Int.reduceLE, Int.reduceEq, reduceCtorEq], by rw [hstep]; exact o2, (kk.trans (Keep.app none _ _)).via k2 (fun b hb => by have := hge b hb; simp; omega)⟩
      · rw [if_neg hq, List.append_nil] at hstep
        repeat' (first | simp only [go_sem, Nat.reduceLT, Nat.reduceEqDiff, Nat.reduceAdd, Nat.reduceMul, Nat.reduceSub, Nat.reduceLeDiff, Int.reduceToNat, Int.reduceNeg, Int.reduceLT, Int.reduceLE, Int.reduceEq, reduceCtorEq, Int.natCast_zero, Int.natCast_one, Int.cast_ofNat_Int, Bool.not_not, false_eq_decide, true_eq_decide, hread0, hreadk, read_cons0, read_consk, astore_h0, astore_hk, hget0, hgetk, hset0, hsetk, hlen, hcat, Nat.add_assoc, Nat.add_zero, Nat.zero_add, List.length_append, and_true, true_and, AV.flat, str_cells, hb0, get_app hb0, read_get hb0, read_app hb0, hv1, one_solid hv1, one_cells hv1, *, -hK, -hstep, -hof] | refine WC.call (hof _) ?_ | with_reducible refine IfB_dec (fun h => ?_) (fun h => ?_) | with_reducible refine Guard_dec (fun h => ?_) (fun h => ?_) | with_reducible refine Guard_ndec (fun h => ?_) (fun h => ?_) | with_reducible refine Guard_not (fun h => ?_) (fun h => ?_) | with_reducible refine IfB_ndec (fun h => ?_) (fun h => ?_) | with_reducible refine IfB_not (fun h => ?_) (fun h => ?_) | with_reducible refine Guard_split (fun h => ?_) (fun h => ?_) | with_reducible refine IfB_split (fun h => ?_) (fun h => ?_))
        refine hR _ _ (by (repeat (first | exact hs | refine hA _ _ _ (by decide) ?_))) (c.keys.length - (i + 1)) (by omega) ⟨i + 1, v, rfl, by omega, by simp only [go_sem, Nat.reduceLT, Nat.reduceEqDiff, Nat.reduceAdd, Nat.reduceMul, Nat.reduceSub, Nat.reduceLeDiff, Int.reduceToNat, Int.reduceNeg, Int.reduceLT, Int.reduceLE, Int.reduceEq, reduceCtorEq], by simp only [go_sem, Nat.reduceLT, Nat.reduceEqDiff, Nat.reduceAdd, Nat.reduceMul, Nat.reduceSub, Nat.reduceLeDiff, Int.reduceToNat, Int.reduceNeg, Int.reduceLT, Int.reduceLE, Int.reduceEq, reduceCtorEq, f10], by rw [hstep]; exact ho, kk⟩
    case refine_2 =>
      have hin : i = c.keys.length := by omega
      rw [hin, List.take_length] at ho
      repeat' (first | simp only [go_sem, Nat.reduceLT, Nat.reduceEqDiff, Nat.reduceAdd, Nat.reduceMul, Nat.reduceSub, Nat.reduceLeDiff, Int.reduceToNat, Int.reduceNeg, Int.reduceLT, Int.reduceLE, Int.reduceEq, reduceCtorEq, Int.natCast_zero, Int.natCast_one, Int.cast_ofNat_Int, Bool.not_not, false_eq_decide, true_eq_decide, hread0, hreadk, read_cons0, read_consk, astore_h0, astore_hk, hget0, hgetk, hset0, hsetk, hlen, hcat, Nat.add_assoc, Nat.add_zero, Nat.zero_add, List.length_append, and_true, true_and, AV.flat, hv1, one_solid hv1, one_cells hv1, *, -hK] | with_reducible refine IfB_dec (fun h => ?_) (fun h => ?_) | with_reducible refine Guard_dec (fun h => ?_) (fun h => ?_) | with_reducible refine Guard_ndec (fun h => ?_) (fun h => ?_) | with_reducible refine Guard_not (fun h => ?_) (fun h => ?_) | with_reducible refine IfB_ndec (fun h => ?_) (fun h => ?_) | with_reducible refine IfB_not (fun h => ?_) (fun h => ?_) | with_reducible refine Guard_split (fun h => ?_) (fun h => ?_) | with_reducible refine IfB_split (fun h => ?_) (fun h => ?_))
      refine store_box hb0 rfl (by simp only [go_sem, Nat.reduceLT, Nat.reduceEqDiff, Nat.reduceAdd, Nat.reduceMul, Nat.reduceSub, Nat.reduceLeDiff, Int.reduceToNat, Int.reduceNeg, Int.reduceLT, Int.reduceLE, Int.reduceEq, reduceCtorEq, hv1, one_solid hv1, one_cells hv1]) (by simp only [go_sem, Nat.reduceLT, Nat.reduceEqDiff, Nat.reduceAdd, Nat.reduceMul, Nat.reduceSub, Nat.reduceLeDiff, Int.reduceToNat, Int.reduceNeg, Int.reduceLT, Int.reduceLE, Int.reduceEq, reduceCtorEq, hv1, one_solid hv1, one_cells hv1]) (by simp only [go_sem, Nat.reduceLT, Nat.reduceEqDiff, Nat.reduceAdd, Nat.reduceMul, Nat.reduceSub, Nat.reduceLeDiff, Int.reduceToNat, Int.reduceNeg, Int.reduceLT, Int.reduceLE, Int.reduceEq, reduceCtorEq, hv1, one_solid hv1, one_cells hv1]) ?_
      intro H3 hb3 k3
      have hb13 := k3.get hb1 (by simp)
      repeat' (first | simp only [go_sem, Nat.reduceLT, Nat.reduceEqDiff, Nat.reduceAdd, Nat.reduceMul, Nat.reduceSub, Nat.reduceLeDiff, Int.reduceToNat, Int.reduceNeg, Int.reduceLT, Int.reduceLE, Int.reduceEq, reduceCtorEq, Int.natCast_zero, Int.natCast_one, Int.cast_ofNat_Int, Bool.not_not, false_eq_decide, true_eq_decide, hread0, hreadk, read_cons0, read_consk, astore_h0, astore_hk, hget0, hgetk, hset0, hsetk, hlen, hcat, Nat.add_assoc, Nat.add_zero, Nat.zero_add, List.length_append, and_true, true_and, AV.flat, hb3, get_app hb3, read_get hb3, read_app hb3, hv1, one_solid hv1, one_cells hv1, *, -hK] | with_reducible refine IfB_dec (fun h => ?_) (fun h => ?_) | with_reducible refine Guard_dec (fun h => ?_) (fun h => ?_) | with_reducible refine Guard_ndec (fun h => ?_) (fun h => ?_) | with_reducible refine Guard_not (fun h => ?_) (fun h => ?_) | with_reducible refine IfB_ndec (fun h => ?_) (fun h => ?_) | with_reducible refine IfB_not (fun h => ?_) (fun h => ?_) | with_reducible refine Guard_split (fun h => ?_) (fun h => ?_) | with_reducible refine IfB_split (fun h => ?_) (fun h => ?_))
      refine store_box hb13 rfl (by simp only [go_sem, Nat.reduceLT, Nat.reduceEqDiff, Nat.reduceAdd, Nat.reduceMul, Nat.reduceSub, Nat.reduceLeDiff, Int.reduceToNat, Int.reduceNeg, Int.reduceLT, Int.reduceLE, Int.reduceEq, reduceCtorEq, hv1, one_solid hv1, one_cells hv1]) (by simp only [go_sem, Nat.reduceLT, Nat.reduceEqDiff, Nat.reduceAdd, Nat.reduceMul, Nat.reduceSub, Nat.reduceLeDiff, Int.reduceToNat, Int.reduceNeg, Int.reduceLT, Int.reduceLE, Int.reduceEq, reduceCtorEq, hv1, one_solid hv1, one_cells hv1]) (by simp only [go_sem, Nat.reduceLT, Nat.reduceEqDiff, Nat.reduceAdd, Nat.reduceMul, Nat.reduceSub, Nat.reduceLeDiff, Int.reduceToNat, Int.reduceNeg, Int.reduceLT, Int.reduceLE, Int.reduceEq, reduceCtorEq, hv1, one_solid hv1, one_cells hv1]) ?_
      intro H4 hb4 k4
      repeat' (first | simp only [go_sem, Nat.reduceLT, Nat.reduceEqDiff, Nat.reduceAdd, Nat.reduceMul, Nat.reduceSub, Nat.reduceLeDiff, Int.reduceToNat, Int.reduceNeg, Int.reduceLT, Int.reduceLE, Int.reduceEq, reduceCtorEq, Int.natCast_zero, Int.natCast_one, Int.cast_ofNat_Int, Bool.not_not, false_eq_decide, true_eq_decide, hread0, hreadk, read_cons0, read_consk, astore_h0, astore_hk, hget0, hgetk, hset0, hsetk, hlen, hcat, Nat.add_assoc, Nat.add_zero, Nat.zero_add, List.length_append, and_true, true_and, AV.flat, hb4, get_app hb4, read_get hb4, read_app hb4, hv1, one_solid hv1, one_cells hv1, *, -hK] | with_reducible refine IfB_dec (fun h => ?_) (fun h => ?_) | with_reducible refine Guard_dec (fun h => ?_) (fun h => ?_) | with_reducible refine Guard_ndec (fun h => ?_) (fun h => ?_) | with_reducible refine Guard_not (fun h => ?_) (fun h => ?_) | with_reducible refine IfB_ndec (fun h => ?_) (fun h => ?_) | with_reducible refine IfB_not (fun h => ?_) (fun h => ?_) | with_reducible refine Guard_split (fun h => ?_) (fun h => ?_) | with_reducible refine IfB_split (fun h => ?_) (fun h => ?_))
      have o4 := (ho.keep k3 (fun b hb e => by cases hb; have := hge _ e; omega)).keep k4 (fun b hb e => by cases hb; have := hge _ e; omega)
      refine hK _ _ ⟨_, rfl, ⟨v, rfl, Own.mono o4 (by omega)⟩, ?_⟩
      exact Keep.new (Keep.new ((Keep.app none H _).trans kk) k3 (by omega)) k4 (by omega)
end Go.Proofs.Ytkkgkljikmhldaa
