import Derived.Test.YtkkgkljikmhldaaOrderR
import Derived.Test.YtkkgkljikmhldaaOrderV
import Derived.Test.YtkkgkljikmhldaaPiSem
set_option linter.unusedSimpArgs false
set_option linter.unusedVariables false
set_option maxRecDepth 100000
set_option maxHeartbeats 8000000
namespace Go.Proofs.Ytkkgkljikmhldaa
open Go Go.Proofs Go.Proofs.PI
theorem orderParts_walk (avs : List AV) (h : InpPAll T 9 [26, 3] avs) : WC Try.prog 3 avs [] fun v _ => v = .bool true := by
  obtain ⟨a0, _, rfl, h0, h⟩ := h.cons
  obtain ⟨a1, _, rfl, h1, h⟩ := h.cons
  obtain rfl := h.nil
  obtain ⟨c, rfl, hn0⟩ := inp_cmd h0
  obtain ⟨n, rfl, -⟩ := h1.int tk3
  clear h0 h1 h
  generalize ([] : Heap) = H
  refine WC_of_K fun K hK => ?_
  have sa := fun J => shards_any c n hn0 J
  by_cases he : shE c n = 0
  rotate_left
  · generalize shE c n = e at *
    generalize shL c n = sl at *
    unfold Cmd.av at sa
    refine WC_of_body hT Try.func3 rfl (by simp [Try.f3]) (by simp [Try.f3]) (wx_sound hT _ ?_)
    simp only [Try.f3]
    repeat' (first | simp only [go_sem, Nat.reduceLT, Nat.reduceEqDiff, Nat.reduceAdd, Nat.reduceMul, Nat.reduceSub, Nat.reduceLeDiff, Int.reduceToNat, Int.reduceNeg, Int.reduceLT, Int.reduceLE, Int.reduceEq, reduceCtorEq, Int.natCast_zero, Int.natCast_one, Int.cast_ofNat_Int, Bool.not_not, false_eq_decide, true_eq_decide, hread0, hreadk, read_cons0, read_consk, astore_h0, astore_hk, hget0, hgetk, hset0, hsetk, hlen, hcat, Nat.add_assoc, Nat.add_zero, Nat.zero_add, List.length_append, and_true, true_and, AV.flat, Cmd.av, *, -hK, -sa] | refine WC.call (alive_spec _) ?_ | refine WC.call (sa _) ?_ | with_reducible refine IfB_dec (fun h => ?_) (fun h => ?_) | with_reducible refine Guard_dec (fun h => ?_) (fun h => ?_) | with_reducible refine Guard_ndec (fun h => ?_) (fun h => ?_) | with_reducible refine Guard_not (fun h => ?_) (fun h => ?_) | with_reducible refine IfB_ndec (fun h => ?_) (fun h => ?_) | with_reducible refine IfB_not (fun h => ?_) (fun h => ?_) | with_reducible refine Guard_split (fun h => ?_) (fun h => ?_) | with_reducible refine IfB_split (fun h => ?_) (fun h => ?_))
    refine (long_spec c hn0 _).mono ?_
    rintro r H' ⟨⟨b, rfl, hb⟩, rfl⟩
    cases b
    all_goals
      repeat' (first | simp only [go_sem, Nat.reduceLT, Nat.reduceEqDiff, Nat.reduceAdd, Nat.reduceMul, Nat.reduceSub, Nat.reduceLeDiff, Int.reduceToNat, Int.reduceNeg, Int.reduceLT, Int.reduceLE, Int.reduceEq, reduceCtorEq, Int.natCast_zero, Int.natCast_one, Int.cast_ofNat_Int, Bool.not_not, false_eq_decide, true_eq_decide, hread0, hreadk, read_cons0, read_consk, astore_h0, astore_hk, hget0, hgetk, hset0, hsetk, hlen, hcat, Nat.add_assoc, Nat.add_zero, Nat.zero_add, List.length_append, and_true, true_and, AV.flat, *, -hK, -sa] | with_reducible refine IfB_dec (fun h => ?_) (fun h => ?_) | with_reducible refine Guard_dec (fun h => ?_) (fun h => ?_) | with_reducible refine Guard_ndec (fun h => ?_) (fun h => ?_) | with_reducible refine Guard_not (fun h => ?_) (fun h => ?_) | with_reducible refine IfB_ndec (fun h => ?_) (fun h => ?_) | with_reducible refine IfB_not (fun h => ?_) (fun h => ?_) | with_reducible refine Guard_split (fun h => ?_) (fun h => ?_) | with_reducible refine IfB_split (fun h => ?_) (fun h => ?_))
      exact hK _ _ rfl
  obtain ⟨hc, hn1, hn4⟩ := shE_ok.1 he
  obtain ⟨hk8, hk32⟩ := cmdB_short hc
  have hpf := fun sh (hm : sh ∈ shL c n) => part_facts he hm
  have hps := parts_sum he
  have hsrt := shL_sorted c n
  have hlen := shL_len c n
  have hmem : ∀ z ∈ shL c n, -1 < z ∧ z < n := fun z hz => by
    obtain ⟨i, hi, _, rfl⟩ := (mem_shL he).1 hz
    omega
  have hne : 0 < (shL c n).length := by
    by_cases h11 : c.kind = 11
    · have : (0 : Int) ∈ shL c n := (mem_shL he).2 ⟨0, by omega, by simp [needB, h11], rfl⟩
      exact List.length_pos_of_mem this
    · obtain ⟨_, h2, _⟩ := cmdB_iff.1 hc
      have h3 : (1 : Int) ≤ c.keys.length := by have := h2.1; unfold loK at this; rw [if_neg h11] at this; exact this
      cases hk : c.keys with
      | nil => rw [hk] at h3; simp at h3
      | cons k l => exact List.length_pos_of_mem (key_in he (k := k) (by rw [hk]; exact .head _))
  rw [he] at sa
  generalize shL c n = sl at *
  unfold Cmd.av at sa
  refine WC_of_body hT Try.func3 rfl (by simp [Try.f3]) (by simp [Try.f3]) (wx_sound hT _ ?_)
  simp only [Try.f3]
  repeat' (first | simp only [go_sem, Nat.reduceLT, Nat.reduceEqDiff, Nat.reduceAdd, Nat.reduceMul, Nat.reduceSub, Nat.reduceLeDiff, Int.reduceToNat, Int.reduceNeg, Int.reduceLT, Int.reduceLE, Int.reduceEq, reduceCtorEq, Int.natCast_zero, Int.natCast_one, Int.cast_ofNat_Int, Bool.not_not, false_eq_decide, true_eq_decide, hread0, hreadk, read_cons0, read_consk, astore_h0, astore_hk, hget0, hgetk, hset0, hsetk, hlen, hcat, Nat.add_assoc, Nat.add_zero, Nat.zero_add, List.length_append, and_true, true_and, AV.flat, Cmd.av, *, -hK, -sa] | refine WC.call (alive_spec _) ?_ | refine WC.call (sa _) ?_ | with_reducible refine IfB_dec (fun h => ?_) (fun h => ?_) | with_reducible refine Guard_dec (fun h => ?_) (fun h => ?_) | with_reducible refine Guard_ndec (fun h => ?_) (fun h => ?_) | with_reducible refine Guard_not (fun h => ?_) (fun h => ?_) | with_reducible refine IfB_ndec (fun h => ?_) (fun h => ?_) | with_reducible refine IfB_not (fun h => ?_) (fun h => ?_) | with_reducible refine Guard_split (fun h => ?_) (fun h => ?_) | with_reducible refine IfB_split (fun h => ?_) (fun h => ?_))
  refine (long_spec c hn0 _).mono ?_
  rintro r H' ⟨⟨b, rfl, hb⟩, rfl⟩
  cases b
  rotate_left
  · repeat' (first | simp only [go_sem, Nat.reduceLT, Nat.reduceEqDiff, Nat.reduceAdd, Nat.reduceMul, Nat.reduceSub, Nat.reduceLeDiff, Int.reduceToNat, Int.reduceNeg, Int.reduceLT, Int.reduceLE, Int.reduceEq, reduceCtorEq, Int.natCast_zero, Int.natCast_one, Int.cast_ofNat_Int, Bool.not_not, false_eq_decide, true_eq_decide, hread0, hreadk, read_cons0, read_consk, astore_h0, astore_hk, hget0, hgetk, hset0, hsetk, hlen, hcat, Nat.add_assoc, Nat.add_zero, Nat.zero_add, List.length_append, and_true, true_and, AV.flat, *, -hK, -sa, -hc, -hps] | with_reducible refine IfB_dec (fun h => ?_) (fun h => ?_) | with_reducible refine Guard_dec (fun h => ?_) (fun h => ?_) | with_reducible refine Guard_ndec (fun h => ?_) (fun h => ?_) | with_reducible refine Guard_not (fun h => ?_) (fun h => ?_) | with_reducible refine IfB_ndec (fun h => ?_) (fun h => ?_) | with_reducible refine IfB_not (fun h => ?_) (fun h => ?_) | with_reducible refine Guard_split (fun h => ?_) (fun h => ?_) | with_reducible refine IfB_split (fun h => ?_) (fun h => ?_))
    exact hK _ _ rfl
  repeat' (first | simp only [go_sem, Nat.reduceLT, Nat.reduceEqDiff, Nat.reduceAdd, Nat.reduceMul, Nat.reduceSub, Nat.reduceLeDiff, Int.reduceToNat, Int.reduceNeg, Int.reduceLT, Int.reduceLE, Int.reduceEq, reduceCtorEq, Int.natCast_zero, Int.natCast_one, Int.cast_ofNat_Int, Bool.not_not, false_eq_decide, true_eq_decide, hread0, hreadk, read_cons0, read_consk, astore_h0, astore_hk, hget0, hgetk, hset0, hsetk, hlen, hcat, Nat.add_assoc, Nat.add_zero, Nat.zero_add, List.length_append, and_true, true_and, AV.flat, *, -hK, -sa, -hc, -hps] | with_reducible refine IfB_dec (fun h => ?_) (fun h => ?_) | with_reducible refine Guard_dec (fun h => ?_) (fun h => ?_) | with_reducible refine Guard_ndec (fun h => ?_) (fun h => ?_) | with_reducible refine Guard_not (fun h => ?_) (fun h => ?_) | with_reducible refine IfB_ndec (fun h => ?_) (fun h => ?_) | with_reducible refine IfB_not (fun h => ?_) (fun h => ?_) | with_reducible refine Guard_split (fun h => ?_) (fun h => ?_) | with_reducible refine IfB_split (fun h => ?_) (fun h => ?_))
  clear sa
  refine WX_loopS [1, 2, 6] (fun q fr' H' => ∃ (i : Nat) (la : Int), q = sl.length - i ∧ i ≤ sl.length ∧ fr'.get 10 = .int .i64 i ∧ fr'.get 9 = .int .i64 la ∧ fr'.get 8 = .int .i64 (((sl.take i).map fun sh => (partL c sh n).keys.length).sum : Nat) ∧ (∀ z ∈ sl.drop i, la < z) ∧ la < n ∧ Keep none (H ++ [⟨c.cs, 0, .full⟩]) H') sl.length ⟨0, -1, rfl, by omega, by simp only [go_sem, Nat.reduceLT, Nat.reduceEqDiff, Nat.reduceAdd, Nat.reduceMul, Nat.reduceSub, Nat.reduceLeDiff, Int.reduceToNat, Int.reduceNeg, Int.reduceLT, Int.reduceLE, Int.reduceEq, reduceCtorEq]; rfl, by simp only [go_sem, Nat.reduceLT, Nat.reduceEqDiff, Nat.reduceAdd, Nat.reduceMul, Nat.reduceSub, Nat.reduceLeDiff, Int.reduceToNat, Int.reduceNeg, Int.reduceLT, Int.reduceLE, Int.reduceEq, reduceCtorEq], by simp only [go_sem, Nat.reduceLT, Nat.reduceEqDiff, Nat.reduceAdd, Nat.reduceMul, Nat.reduceSub, Nat.reduceLeDiff, Int.reduceToNat, Int.reduceNeg, Int.reduceLT, Int.reduceLE, Int.reduceEq, reduceCtorEq]; rfl, fun z hz => (hmem z hz).1, by omega, Keep.refl _ _⟩ ?_
  rintro q fr' H1 A R hA hs hg hR ⟨i, la, rfl, hi, f10, f9, f8, hla, hlan, kk⟩
  have s1 := hg 1 (by decide)
  have s2 := hg 2 (by decide)
  have s6 := hg 6 (by decide)
  simp only [Fr.get_put, Fr.get_init, List.getD_cons_zero, List.getD_cons_succ, Nat.reduceEqDiff, if_true, if_false] at s1 s2 s6
  have hb0 : H1[H.length]? = some ⟨c.cs, 0, .full⟩ := kk.get (by rw [hget0]; rfl) (by simp)
  unfold Cmd.cs at hb0
  refine wx_sound hT _ ?_
  repeat' (first | simp only [go_sem, Nat.reduceLT, Nat.reduceEqDiff, Nat.reduceAdd, Nat.reduceMul, Nat.reduceSub, Nat.reduceLeDiff, Int.reduceToNat, Int.reduceNeg, Int.reduceLT, Int.reduceLE, Int.reduceEq, reduceCtorEq, Int.natCast_zero, Int.natCast_one, Int.cast_ofNat_Int, Bool.not_not, false_eq_decide, true_eq_decide, hread0, hreadk, read_cons0, read_consk, astore_h0, astore_hk, hget0, hgetk, hset0, hsetk, hlen, hcat, Nat.add_assoc, Nat.add_zero, Nat.zero_add, List.length_append, and_true, true_and, AV.flat, *, -hK, -hc, -hps, -hla] | with_reducible refine IfB_dec (fun h => ?_) (fun h => ?_) | with_reducible refine Guard_dec (fun h => ?_) (fun h => ?_) | with_reducible refine Guard_ndec (fun h => ?_) (fun h => ?_) | with_reducible refine Guard_not (fun h => ?_) (fun h => ?_) | with_reducible refine IfB_ndec (fun h => ?_) (fun h => ?_) | with_reducible refine IfB_not (fun h => ?_) (fun h => ?_) | with_reducible refine Guard_split (fun h => ?_) (fun h => ?_) | with_reducible refine IfB_split (fun h => ?_) (fun h => ?_))
  case refine_2 =>
    have hin : i = sl.length := by omega
    have f8' : ((sl.take i).map fun sh => (partL c sh n).keys.length).sum = c.keys.length := by rw [hin, List.take_length, hps]
    have g1 : (0 : Int) < sl.length := by omega
    repeat' (first | simp only [go_sem, Nat.reduceLT, Nat.reduceEqDiff, Nat.reduceAdd, Nat.reduceMul, Nat.reduceSub, Nat.reduceLeDiff, Int.reduceToNat, Int.reduceNeg, Int.reduceLT, Int.reduceLE, Int.reduceEq, reduceCtorEq, Int.natCast_zero, Int.natCast_one, Int.cast_ofNat_Int, Bool.not_not, false_eq_decide, true_eq_decide, hread0, hreadk, read_cons0, read_consk, astore_h0, astore_hk, hget0, hgetk, hset0, hsetk, hlen, hcat, Nat.add_assoc, Nat.add_zero, Nat.zero_add, List.length_append, and_true, true_and, AV.flat, hb0, get_app hb0, read_get hb0, read_app hb0, *, -hK, -hc, -hps, -hla, -hin] | with_reducible refine IfB_dec (fun h => ?_) (fun h => ?_) | with_reducible refine Guard_dec (fun h => ?_) (fun h => ?_) | with_reducible refine Guard_ndec (fun h => ?_) (fun h => ?_) | with_reducible refine Guard_not (fun h => ?_) (fun h => ?_) | with_reducible refine IfB_ndec (fun h => ?_) (fun h => ?_) | with_reducible refine IfB_not (fun h => ?_) (fun h => ?_) | with_reducible refine Guard_split (fun h => ?_) (fun h => ?_) | with_reducible refine IfB_split (fun h => ?_) (fun h => ?_))
    all_goals first | exact hK _ _ rfl | (exfalso; omega)
  have hlt : i < sl.length := by omega
  have hm := List.getElem_mem hlt
  obtain ⟨p1, p2, p3, p4, p5, p6⟩ := hpf _ hm
  have ps := fun J => part_spec c sl[i] n (by omega) (fun k hk => by have := hk32 k hk; omega) J
  rw [p1, p2] at ps
  rw [p2] at p3 p4 p5 p6
  have hsub : (pieceK c sl[i] n c.keys).Sublist c.keys := List.filter_sublist ..
  have hlenP : (partL c sl[i] n).keys.length = (pieceK c sl[i] n c.keys).length := by rw [p2]; rfl
  generalize pieceK c sl[i] n c.keys = P at *
  have hPl := hsub.length_le
  have e1 := at_enc (E := Enc.int .i64) (k := .i64) se28 hlt rfl
  have e3 := inc_id hlt (show sl.length ≤ 140737488355328 by omega)
  have cs := fun J => ordCheck_spec (c.with P) (by show P.length ≤ _; omega) J
  rw [show ordE (c.with P) = 0 by rw [ordE, if_pos p3]] at cs
  have ss := fun J => shards_spec (c.with P) n (by show P.length ≤ _; omega) (fun k hk => by have := hk32 k (hsub.subset hk); omega) J
  rw [p4] at ss
  have smT : sl.length = 1 → ∀ J, WC Try.prog 11 [(c.with P).av, c.av] J fun r H' => r = .bool true ∧ H' = J := fun hl J => by
    have := sameCmd_spec (c.with P) c (by show P.length ≤ _; omega) J
    rw [decide_eq_true (p6 hl)] at this
    exact this
  have g2 : ¬ sl[i] ≤ la := by have := hla sl[i] (by rw [List.drop_eq_getElem_cons hlt]; exact .head _); omega
  have hlsl := shL_len (c.with P) n
  generalize hLS : shL (c.with P) n = ls at *
  unfold Cmd.with Cmd.av at ps cs ss smT
  simp only at ps cs ss smT
  refine WX_rows hT hmix [(0, none), (1, none), (2, none), (3, none), (4, none), (5, none), (10, none), (6, some [false, true, true, true, true, true, true]), (7, none), (8, none), (9, none), (11, some [false, true, true, true, true, true, true, true, true, true, true]), (12, none)] (by kernel_rfl) ?_
  repeat' (first | simp only [go_sem, Nat.reduceLT, Nat.reduceEqDiff, Nat.reduceAdd, Nat.reduceMul, Nat.reduceSub, Nat.reduceLeDiff, Int.reduceToNat, Int.reduceNeg, Int.reduceLT, Int.reduceLE, Int.reduceEq, reduceCtorEq, Int.natCast_zero, Int.natCast_one, Int.cast_ofNat_Int, Bool.not_not, false_eq_decide, true_eq_decide, hread0, hreadk, read_cons0, read_consk, astore_h0, astore_hk, hget0, hgetk, hset0, hsetk, hlen, hcat, Nat.add_assoc, Nat.add_zero, Nat.zero_add, List.length_append, and_true, true_and, AV.flat, int_cells, hb0, get_app hb0, read_get hb0, read_app hb0, *, -hK, -hc, -hps, -hla, -ps, -cs, -ss, -smT, -p1, -p2, -p3, -p4, -p5, -p6, -hLS] | refine WC.call (ps _) ?_ | refine WC.call (cs _) ?_ | refine WC.call (ss _) ?_ | with_reducible refine IfB_dec (fun h => ?_) (fun h => ?_) | with_reducible refine Guard_dec (fun h => ?_) (fun h => ?_) | with_reducible refine Guard_ndec (fun h => ?_) (fun h => ?_) | with_reducible refine Guard_not (fun h => ?_) (fun h => ?_) | with_reducible refine IfB_ndec (fun h => ?_) (fun h => ?_) | with_reducible refine IfB_not (fun h => ?_) (fun h => ?_) | with_reducible refine Guard_split (fun h => ?_) (fun h => ?_) | with_reducible refine IfB_split (fun h => ?_) (fun h => ?_))
  by_cases h11 : c.kind = 11
  · simp only [h11] at smT
    by_cases hl1 : (sl.length : Int) = 1
    · have sm := smT (by omega)
      clear smT
      refine WX_rows hT hmix [(0, none), (1, none), (2, none), (3, none), (4, none), (5, none), (6, none), (7, none), (8, none), (9, none), (10, none), (11, none), (12, none), (13, none), (14, none), (15, none), (16, none), (17, none), (18, none), (19, none), (20, none), (21, none), (22, none), (23, none), (24, none), (25, none), (26, none), (27, none), (28, none), (29, some [true, true, true, true, true, true, true, true, true, true, true, true, true, true, true, true, true, true, true, true, true, true, true, true, true, true, true, true, true]), (30, none), (31, none), (32, none)] (by kernel_rfl) ?_
      repeat' (first | simp only [go_sem, Nat.reduceLT, Nat.reduceEqDiff, Nat.reduceAdd, Nat.reduceMul, Nat.reduceSub, Nat.reduceLeDiff, Int.reduceToNat, Int.reduceNeg, Int.reduceLT, Int.reduceLE, Int.reduceEq, reduceCtorEq, Int.natCast_zero, Int.natCast_one, Int.cast_ofNat_Int, Bool.not_not, false_eq_decide, true_eq_decide, hread0, hreadk, read_cons0, read_consk, astore_h0, astore_hk, hget0, hgetk, hset0, hsetk, hlen, hcat, Nat.add_assoc, Nat.add_zero, Nat.zero_add, List.length_append, and_true, true_and, AV.flat, int_cells, hb0, get_app hb0, read_get hb0, read_app hb0, *, -hK, -hc, -hps, -hla, -ps, -cs, -ss, -sm, -p1, -p2, -p3, -p4, -p5, -p6, -hLS] | refine WC.call (sm _) ?_ | with_reducible refine IfB_dec (fun h => ?_) (fun h => ?_) | with_reducible refine Guard_dec (fun h => ?_) (fun h => ?_) | with_reducible refine Guard_ndec (fun h => ?_) (fun h => ?_) | with_reducible refine Guard_not (fun h => ?_) (fun h => ?_) | with_reducible refine IfB_ndec (fun h => ?_) (fun h => ?_) | with_reducible refine IfB_not (fun h => ?_) (fun h => ?_) | with_reducible refine Guard_split (fun h => ?_) (fun h => ?_) | with_reducible refine IfB_split (fun h => ?_) (fun h => ?_))
      clear sm
      rw [h11] at hb0
      clear hpf ps cs ss hLS p6 p5 p4 p3
      generalize hG : (H1 ++ [(⟨[.int .u8 11, .int .i64 c.ten, Enc.str.lst P, .str c.val, .int .u32 c.flags, .int .i64 c.for_, .int .u64 c.uniq, .int .u64 c.by_], 0, .full⟩ : Blk)] : Heap) = G
      have hbP : G[H1.length]? = some ⟨[.int .u8 11, .int .i64 c.ten, Enc.str.lst P, .str c.val, .int .u32 c.flags, .int .i64 c.for_, .int .u64 c.uniq, .int .u64 c.by_], 0, .full⟩ := by rw [← hG, hget0]; rfl
      have kG : Keep none H1 G := by rw [← hG]; exact Keep.app _ _ _
      have hb0 := kG.get hb0 (by simp)
      clear hG
      have o1 := s1
      have o2 := s2
      have o6 := s6
      have hA0 := hA
      refine WX_loopS [1, 2, 6, 8, 9, 10, 11] (fun q fr2 H2 => ∃ k a : Nat, q = P.length - k ∧ k ≤ P.length ∧ fr2.get 16 = .int .i64 k ∧ fr2.get 15 = .int .i64 a ∧ a ≤ c.keys.length ∧ (P.drop k).Sublist (c.keys.drop a) ∧ H2 = G ∧ A fr2) P.length ⟨0, 0, rfl, by omega, by simp only [go_sem, Nat.reduceLT, Nat.reduceEqDiff, Nat.reduceAdd, Nat.reduceMul, Nat.reduceSub, Nat.reduceLeDiff, Int.reduceToNat, Int.reduceNeg, Int.reduceLT, Int.reduceLE, Int.reduceEq, reduceCtorEq]; rfl, by simp only [go_sem, Nat.reduceLT, Nat.reduceEqDiff, Nat.reduceAdd, Nat.reduceMul, Nat.reduceSub, Nat.reduceLeDiff, Int.reduceToNat, Int.reduceNeg, Int.reduceLT, Int.reduceLE, Int.reduceEq, reduceCtorEq]; rfl, by omega, by simpa using hsub, rfl, by (repeat (first | exact hs | refine hA _ _ _ (by decide) ?_))⟩ ?_
      clear hg hs hA
      rintro q fr2 H2 A2 R2 hA hs hg hR2 ⟨k, a, rfl, hk, g16, g15, ha, hss, rfl, hAf⟩
      have s1 := hg 1 (by decide)
      have s2 := hg 2 (by decide)
      have s6 := hg 6 (by decide)
      have s8 := hg 8 (by decide)
      have s9 := hg 9 (by decide)
      have s10 := hg 10 (by decide)
      have s11 := hg 11 (by decide)
      simp only [Fr.get_put, Fr.get_init, List.getD_cons_zero, List.getD_cons_succ, Nat.reduceEqDiff, if_true, if_false] at s1 s2 s6 s8 s9 s10 s11
      rw [o1] at s1
      rw [o2] at s2
      rw [o6] at s6
      rw [f8] at s8
      rw [f10] at s10
      refine wx_sound hT _ ?_
      repeat' (first | simp only [go_sem, Nat.reduceLT, Nat.reduceEqDiff, Nat.reduceAdd, Nat.reduceMul, Nat.reduceSub, Nat.reduceLeDiff, Int.reduceToNat, Int.reduceNeg, Int.reduceLT, Int.reduceLE, Int.reduceEq, reduceCtorEq, Int.natCast_zero, Int.natCast_one, Int.cast_ofNat_Int, Bool.not_not, false_eq_decide, true_eq_decide, hread0, hreadk, read_cons0, read_consk, astore_h0, astore_hk, hget0, hgetk, hset0, hsetk, hlen, hcat, Nat.add_assoc, Nat.add_zero, Nat.zero_add, List.length_append, and_true, true_and, AV.flat, hb0, get_app hb0, read_get hb0, read_app hb0, hbP, get_app hbP, read_get hbP, read_app hbP, *, -hK, -hps, -hla, -hlenP, -hc] | with_reducible refine IfB_dec (fun h => ?_) (fun h => ?_) | with_reducible refine Guard_dec (fun h => ?_) (fun h => ?_) | with_reducible refine Guard_ndec (fun h => ?_) (fun h => ?_) | with_reducible refine Guard_not (fun h => ?_) (fun h => ?_) | with_reducible refine IfB_ndec (fun h => ?_) (fun h => ?_) | with_reducible refine IfB_not (fun h => ?_) (fun h => ?_) | with_reducible refine Guard_split (fun h => ?_) (fun h => ?_) | with_reducible refine IfB_split (fun h => ?_) (fun h => ?_))
      case refine_1 =>
        have hkl : k < P.length := by omega
        have q1 := s1
        have q2 := s2
        have q6 := s6
        have q8 := s8
        have q9 := s9
        have q10 := s10
        have q11 := s11
        have hA1 := hA
        have hx : P.drop k = P[k] :: P.drop (k + 1) := List.drop_eq_getElem_cons hkl
        rw [hx] at hss
        refine WX_loopS [1, 2, 6, 8, 9, 10, 11, 16] (fun q fr3 H3 => ∃ b : Nat, q = c.keys.length - b ∧ fr3.get 15 = .int .i64 b ∧ b ≤ c.keys.length ∧ (P[k] :: P.drop (k + 1)).Sublist (c.keys.drop b) ∧ H3 = H2 ∧ A fr3 ∧ A2 fr3) (c.keys.length - a) ⟨a, rfl, by simp only [go_sem, Nat.reduceLT, Nat.reduceEqDiff, Nat.reduceAdd, Nat.reduceMul, Nat.reduceSub, Nat.reduceLeDiff, Int.reduceToNat, Int.reduceNeg, Int.reduceLT, Int.reduceLE, Int.reduceEq, reduceCtorEq, g15], ha, hss, rfl, by (repeat (first | exact hAf | refine hA0 _ _ _ (by decide) ?_)), by (repeat (first | exact hs | refine hA1 _ _ _ (by decide) ?_))⟩ ?_
        clear hg hs hA hss
        rintro q fr3 H3 A3 R3 hA hs hg hR3 ⟨b, rfl, g15, hb, hss, rfl, hAf, hAf2⟩
        have s1 := hg 1 (by decide)
        have s2 := hg 2 (by decide)
        have s6 := hg 6 (by decide)
        have s8 := hg 8 (by decide)
        have s9 := hg 9 (by decide)
        have s10 := hg 10 (by decide)
        have s11 := hg 11 (by decide)
        have s16 := hg 16 (by decide)
        simp only [Fr.get_put, Fr.get_init, List.getD_cons_zero, List.getD_cons_succ, Nat.reduceEqDiff, if_true, if_false] at s1 s2 s6 s8 s9 s10 s11 s16
        rw [q1] at s1
        rw [q2] at s2
        rw [q6] at s6
        rw [q8] at s8
        rw [q9] at s9
        rw [q10] at s10
        rw [q11] at s11
        rw [g16] at s16
        clear q1 q2 q6 q8 q9 q10 q11
        have hbl : b < c.keys.length := by
          by_cases h : b < c.keys.length
          · exact h
          · rw [List.drop_eq_nil_of_le (show c.keys.length ≤ b by omega)] at hss
            have := hss.length_le
            simp at this
            omega
        have w1 := at_enc (E := Enc.str) (T := T) (k := .i64) se22 hbl rfl
        have w2 := at_enc (E := Enc.str) (T := T) (k := .i64) se22 hkl rfl
        have w3 := inc_id hbl (show c.keys.length ≤ 140737488355328 by omega)
        have w4 : (b : Int) < c.keys.length := by omega
        have w5 : ¬ (b : Int) = c.keys.length := by omega
        have w6 := inc_id hkl (show P.length ≤ 140737488355328 by omega)
        refine wx_sound hT _ ?_
        refine WX_rows hT hmix [(0, none), (1, none), (2, none), (3, none), (4, none), (5, none), (6, none), (7, none), (8, none), (9, none), (10, none), (11, none), (12, none), (13, none), (14, none), (15, none), (16, none), (17, none)] (by kernel_rfl) ?_
        repeat' (first | simp only [go_sem, Nat.reduceLT, Nat.reduceEqDiff, Nat.reduceAdd, Nat.reduceMul, Nat.reduceSub, Nat.reduceLeDiff, Int.reduceToNat, Int.reduceNeg, Int.reduceLT, Int.reduceLE, Int.reduceEq, reduceCtorEq, Int.natCast_zero, Int.natCast_one, Int.cast_ofNat_Int, Bool.not_not, false_eq_decide, true_eq_decide, hread0, hreadk, read_cons0, read_consk, astore_h0, astore_hk, hget0, hgetk, hset0, hsetk, hlen, hcat, Nat.add_assoc, Nat.add_zero, Nat.zero_add, List.length_append, and_true, true_and, AV.flat, hb0, get_app hb0, read_get hb0, read_app hb0, hbP, get_app hbP, read_get hbP, read_app hbP, str_cells, *, -hK, -hps, -hla, -hlenP, -hc, -hss] | with_reducible refine IfB_dec (fun h => ?_) (fun h => ?_) | with_reducible refine Guard_dec (fun h => ?_) (fun h => ?_) | with_reducible refine Guard_ndec (fun h => ?_) (fun h => ?_) | with_reducible refine Guard_not (fun h => ?_) (fun h => ?_) | with_reducible refine IfB_ndec (fun h => ?_) (fun h => ?_) | with_reducible refine IfB_not (fun h => ?_) (fun h => ?_) | with_reducible refine Guard_split (fun h => ?_) (fun h => ?_) | with_reducible refine IfB_split (fun h => ?_) (fun h => ?_))
        case refine_1 =>
          refine hR3 _ _ (by (repeat (first | exact hs | refine hA _ _ _ (by decide) ?_))) (c.keys.length - (b + 1)) (by omega) ⟨b + 1, rfl, by simp only [go_sem, Nat.reduceLT, Nat.reduceEqDiff, Nat.reduceAdd, Nat.reduceMul, Nat.reduceSub, Nat.reduceLeDiff, Int.reduceToNat, Int.reduceNeg, Int.reduceLT, Int.reduceLE, Int.reduceEq, reduceCtorEq], by omega, ?_, rfl, by (repeat (first | exact hAf | refine hA0 _ _ _ (by decide) ?_)), by (repeat (first | exact hAf2 | refine hA1 _ _ _ (by decide) ?_))⟩
          rw [List.drop_eq_getElem_cons hbl] at hss
          rcases List.sublist_cons_iff.1 hss with hs1 | ⟨r, hr1, hr2⟩
          · exact hs1
          · have := (List.cons.inj hr1).1
            exact absurd this.symm ‹¬ _ = _›
        all_goals
          refine hR2 _ _ (by (repeat (first | exact hAf2 | refine hA1 _ _ _ (by decide) ?_))) (P.length - (k + 1)) (by omega) ⟨k + 1, b, rfl, by omega, by simp only [go_sem, Nat.reduceLT, Nat.reduceEqDiff, Nat.reduceAdd, Nat.reduceMul, Nat.reduceSub, Nat.reduceLeDiff, Int.reduceToNat, Int.reduceNeg, Int.reduceLT, Int.reduceLE, Int.reduceEq, reduceCtorEq], by simp only [go_sem, Nat.reduceLT, Nat.reduceEqDiff, Nat.reduceAdd, Nat.reduceMul, Nat.reduceSub, Nat.reduceLeDiff, Int.reduceToNat, Int.reduceNeg, Int.reduceLT, Int.reduceLE, Int.reduceEq, reduceCtorEq, g15], by omega, (List.sublist_cons_self _ _).trans hss, rfl, by (repeat (first | exact hAf | refine hA0 _ _ _ (by decide) ?_))⟩
      case refine_2 =>
        have hkk : k = P.length := by omega
        have w1 : IntKind.i64.wrap ((((sl.take i).map fun sh => (partL c sh n).keys.length).sum : Nat) + (P.length : Int)) = ((((sl.take (i + 1)).map fun sh => (partL c sh n).keys.length).sum : Nat) : Int) := by
          have hle : ((sl.take (i + 1)).map fun sh => (partL c sh n).keys.length).sum ≤ c.keys.length := by
            rw [← hps, ← List.take_append_drop (i + 1) sl, List.map_append, List.sum_append, List.take_append_drop]; omega
          have he : ((sl.take (i + 1)).map fun sh => (partL c sh n).keys.length).sum = ((sl.take i).map fun sh => (partL c sh n).keys.length).sum + P.length := by
            rw [List.take_succ_eq_append_getElem hlt, List.map_append, List.sum_append]; simp [hlenP]
          rw [i64_id _ (by omega) (by omega)]; omega
        repeat' (first | simp only [go_sem, Nat.reduceLT, Nat.reduceEqDiff, Nat.reduceAdd, Nat.reduceMul, Nat.reduceSub, Nat.reduceLeDiff, Int.reduceToNat, Int.reduceNeg, Int.reduceLT, Int.reduceLE, Int.reduceEq, reduceCtorEq, Int.natCast_zero, Int.natCast_one, Int.cast_ofNat_Int, Bool.not_not, false_eq_decide, true_eq_decide, hread0, hreadk, read_cons0, read_consk, astore_h0, astore_hk, hget0, hgetk, hset0, hsetk, hlen, hcat, Nat.add_assoc, Nat.add_zero, Nat.zero_add, List.length_append, and_true, true_and, AV.flat, hb0, get_app hb0, read_get hb0, read_app hb0, hbP, get_app hbP, read_get hbP, read_app hbP, *, -hK, -hps, -hla, -hlenP, -hc] | with_reducible refine IfB_dec (fun h => ?_) (fun h => ?_) | with_reducible refine Guard_dec (fun h => ?_) (fun h => ?_) | with_reducible refine Guard_ndec (fun h => ?_) (fun h => ?_) | with_reducible refine Guard_not (fun h => ?_) (fun h => ?_) | with_reducible refine IfB_ndec (fun h => ?_) (fun h => ?_) | with_reducible refine IfB_not (fun h => ?_) (fun h => ?_) | with_reducible refine Guard_split (fun h => ?_) (fun h => ?_) | with_reducible refine IfB_split (fun h => ?_) (fun h => ?_))
        refine hR _ _ (by (repeat (first | exact hAf | refine hA0 _ _ _ (by decide) ?_))) (sl.length - (i + 1)) (by omega) ⟨i + 1, sl[i], rfl, by omega, by simp only [go_sem, Nat.reduceLT, Nat.reduceEqDiff, Nat.reduceAdd, Nat.reduceMul, Nat.reduceSub, Nat.reduceLeDiff, Int.reduceToNat, Int.reduceNeg, Int.reduceLT, Int.reduceLE, Int.reduceEq, reduceCtorEq], by simp only [go_sem, Nat.reduceLT, Nat.reduceEqDiff, Nat.reduceAdd, Nat.reduceMul, Nat.reduceSub, Nat.reduceLeDiff, Int.reduceToNat, Int.reduceNeg, Int.reduceLT, Int.reduceLE, Int.reduceEq, reduceCtorEq, s9], by simp only [go_sem, Nat.reduceLT, Nat.reduceEqDiff, Nat.reduceAdd, Nat.reduceMul, Nat.reduceSub, Nat.reduceLeDiff, Int.reduceToNat, Int.reduceNeg, Int.reduceLT, Int.reduceLE, Int.reduceEq, reduceCtorEq], fun z hz => ?_, (hmem _ hm).2, kk.trans kG⟩
        have hp := hsrt
        rw [← List.take_append_drop (i + 1) sl, List.pairwise_append] at hp
        exact hp.2.2 _ (by rw [List.take_succ_eq_append_getElem hlt]; exact List.mem_append_right _ (List.mem_singleton.2 rfl)) z hz
    · clear smT
      refine WX_rows hT hmix [(0, none), (1, none), (2, none), (3, none), (4, none), (5, none), (6, none), (7, none), (8, none), (9, none), (10, none), (11, none), (12, none), (13, none), (14, none), (15, none), (16, none), (17, none), (18, none), (19, none), (20, none), (21, none), (22, none), (23, none), (24, none), (25, none), (26, none), (27, none), (28, none), (29, some [true, true, true, true, true, true, true, true, true, true, true, true, true, true, true, true, true, true, true, true, true, true, true, true, true, true, true, true, true]), (30, none), (31, none), (32, none)] (by kernel_rfl) ?_
      repeat' (first | simp only [go_sem, Nat.reduceLT, Nat.reduceEqDiff, Nat.reduceAdd, Nat.reduceMul, Nat.reduceSub, Nat.reduceLeDiff, Int.reduceToNat, Int.reduceNeg, Int.reduceLT, Int.reduceLE, Int.reduceEq, reduceCtorEq, Int.natCast_zero, Int.natCast_one, Int.cast_ofNat_Int, Bool.not_not, false_eq_decide, true_eq_decide, hread0, hreadk, read_cons0, read_consk, astore_h0, astore_hk, hget0, hgetk, hset0, hsetk, hlen, hcat, Nat.add_assoc, Nat.add_zero, Nat.zero_add, List.length_append, and_true, true_and, AV.flat, int_cells, hb0, get_app hb0, read_get hb0, read_app hb0, *, -hK, -hc, -hps, -hla, -ps, -cs, -ss, -p1, -p2, -p3, -p4, -p5, -p6, -hLS] | with_reducible refine IfB_dec (fun h => ?_) (fun h => ?_) | with_reducible refine Guard_dec (fun h => ?_) (fun h => ?_) | with_reducible refine Guard_ndec (fun h => ?_) (fun h => ?_) | with_reducible refine Guard_not (fun h => ?_) (fun h => ?_) | with_reducible refine IfB_ndec (fun h => ?_) (fun h => ?_) | with_reducible refine IfB_not (fun h => ?_) (fun h => ?_) | with_reducible refine Guard_split (fun h => ?_) (fun h => ?_) | with_reducible refine IfB_split (fun h => ?_) (fun h => ?_))
      rw [h11] at hb0
      clear hpf ps cs ss hLS p6 p5 p4 p3
      generalize hG : (H1 ++ [(⟨[.int .u8 11, .int .i64 c.ten, Enc.str.lst P, .str c.val, .int .u32 c.flags, .int .i64 c.for_, .int .u64 c.uniq, .int .u64 c.by_], 0, .full⟩ : Blk)] : Heap) = G
      have hbP : G[H1.length]? = some ⟨[.int .u8 11, .int .i64 c.ten, Enc.str.lst P, .str c.val, .int .u32 c.flags, .int .i64 c.for_, .int .u64 c.uniq, .int .u64 c.by_], 0, .full⟩ := by rw [← hG, hget0]; rfl
      have kG : Keep none H1 G := by rw [← hG]; exact Keep.app _ _ _
      have hb0 := kG.get hb0 (by simp)
      clear hG
      have o1 := s1
      have o2 := s2
      have o6 := s6
      have hA0 := hA
      refine WX_loopS [1, 2, 6, 8, 9, 10, 11] (fun q fr2 H2 => ∃ k a : Nat, q = P.length - k ∧ k ≤ P.length ∧ fr2.get 16 = .int .i64 k ∧ fr2.get 15 = .int .i64 a ∧ a ≤ c.keys.length ∧ (P.drop k).Sublist (c.keys.drop a) ∧ H2 = G ∧ A fr2) P.length ⟨0, 0, rfl, by omega, by simp only [go_sem, Nat.reduceLT, Nat.reduceEqDiff, Nat.reduceAdd, Nat.reduceMul, Nat.reduceSub, Nat.reduceLeDiff, Int.reduceToNat, Int.reduceNeg, Int.reduceLT, Int.reduceLE, Int.reduceEq, reduceCtorEq]; rfl, by simp only [go_sem, Nat.reduceLT, Nat.reduceEqDiff, Nat.reduceAdd, Nat.reduceMul, Nat.reduceSub, Nat.reduceLeDiff, Int.reduceToNat, Int.reduceNeg, Int.reduceLT, Int.reduceLE, Int.reduceEq, reduceCtorEq]; rfl, by omega, by simpa using hsub, rfl, by (repeat (first | exact hs | refine hA _ _ _ (by decide) ?_))⟩ ?_
      clear hg hs hA
      rintro q fr2 H2 A2 R2 hA hs hg hR2 ⟨k, a, rfl, hk, g16, g15, ha, hss, rfl, hAf⟩
      have s1 := hg 1 (by decide)
      have s2 := hg 2 (by decide)
      have s6 := hg 6 (by decide)
      have s8 := hg 8 (by decide)
      have s9 := hg 9 (by decide)
      have s10 := hg 10 (by decide)
      have s11 := hg 11 (by decide)
      simp only [Fr.get_put, Fr.get_init, List.getD_cons_zero, List.getD_cons_succ, Nat.reduceEqDiff, if_true, if_false] at s1 s2 s6 s8 s9 s10 s11
      rw [o1] at s1
      rw [o2] at s2
      rw [o6] at s6
      rw [f8] at s8
      rw [f10] at s10
      refine wx_sound hT _ ?_
      repeat' (first | simp only [go_sem, Nat.reduceLT, Nat.reduceEqDiff, Nat.reduceAdd, Nat.reduceMul, Nat.reduceSub, Nat.reduceLeDiff, Int.reduceToNat, Int.reduceNeg, Int.reduceLT, Int.reduceLE, Int.reduceEq, reduceCtorEq, Int.natCast_zero, Int.natCast_one, Int.cast_ofNat_Int, Bool.not_not, false_eq_decide, true_eq_decide, hread0, hreadk, read_cons0, read_consk, astore_h0, astore_hk, hget0, hgetk, hset0, hsetk, hlen, hcat, Nat.add_assoc, Nat.add_zero, Nat.zero_add, List.length_append, and_true, true_and, AV.flat, hb0, get_app hb0, read_get hb0, read_app hb0, hbP, get_app hbP, read_get hbP, read_app hbP, *, -hK, -hps, -hla, -hlenP, -hc] | with_reducible refine IfB_dec (fun h => ?_) (fun h => ?_) | with_reducible refine Guard_dec (fun h => ?_) (fun h => ?_) | with_reducible refine Guard_ndec (fun h => ?_) (fun h => ?_) | with_reducible refine Guard_not (fun h => ?_) (fun h => ?_) | with_reducible refine IfB_ndec (fun h => ?_) (fun h => ?_) | with_reducible refine IfB_not (fun h => ?_) (fun h => ?_) | with_reducible refine Guard_split (fun h => ?_) (fun h => ?_) | with_reducible refine IfB_split (fun h => ?_) (fun h => ?_))
      case refine_1 =>
        have hkl : k < P.length := by omega
        have q1 := s1
        have q2 := s2
        have q6 := s6
        have q8 := s8
        have q9 := s9
        have q10 := s10
        have q11 := s11
        have hA1 := hA
        have hx : P.drop k = P[k] :: P.drop (k + 1) := List.drop_eq_getElem_cons hkl
        rw [hx] at hss
        refine WX_loopS [1, 2, 6, 8, 9, 10, 11, 16] (fun q fr3 H3 => ∃ b : Nat, q = c.keys.length - b ∧ fr3.get 15 = .int .i64 b ∧ b ≤ c.keys.length ∧ (P[k] :: P.drop (k + 1)).Sublist (c.keys.drop b) ∧ H3 = H2 ∧ A fr3 ∧ A2 fr3) (c.keys.length - a) ⟨a, rfl, by simp only [go_sem, Nat.reduceLT, Nat.reduceEqDiff, Nat.reduceAdd, Nat.reduceMul, Nat.reduceSub, Nat.reduceLeDiff, Int.reduceToNat, Int.reduceNeg, Int.reduceLT, Int.reduceLE, Int.reduceEq, reduceCtorEq, g15], ha, hss, rfl, by (repeat (first | exact hAf | refine hA0 _ _ _ (by decide) ?_)), by (repeat (first | exact hs | refine hA1 _ _ _ (by decide) ?_))⟩ ?_
        clear hg hs hA hss
        rintro q fr3 H3 A3 R3 hA hs hg hR3 ⟨b, rfl, g15, hb, hss, rfl, hAf, hAf2⟩
        have s1 := hg 1 (by decide)
        have s2 := hg 2 (by decide)
        have s6 := hg 6 (by decide)
        have s8 := hg 8 (by decide)
        have s9 := hg 9 (by decide)
        have s10 := hg 10 (by decide)
        have s11 := hg 11 (by decide)
        have s16 := hg 16 (by decide)
        simp only [Fr.get_put, Fr.get_init, List.getD_cons_zero, List.getD_cons_succ, Nat.reduceEqDiff, if_true, if_false] at s1 s2 s6 s8 s9 s10 s11 s16
        rw [q1] at s1
        rw [q2] at s2
        rw [q6] at s6
        rw [q8] at s8
        rw [q9] at s9
        rw [q10] at s10
        rw [q11] at s11
        rw [g16] at s16
        clear q1 q2 q6 q8 q9 q10 q11
        have hbl : b < c.keys.length := by
          by_cases h : b < c.keys.length
          · exact h
          · rw [List.drop_eq_nil_of_le (show c.keys.length ≤ b by omega)] at hss
            have := hss.length_le
            simp at this
            omega
        have w1 := at_enc (E := Enc.str) (T := T) (k := .i64) se22 hbl rfl
        have w2 := at_enc (E := Enc.str) (T := T) (k := .i64) se22 hkl rfl
        have w3 := inc_id hbl (show c.keys.length ≤ 140737488355328 by omega)
        have w4 : (b : Int) < c.keys.length := by omega
        have w5 : ¬ (b : Int) = c.keys.length := by omega
        have w6 := inc_id hkl (show P.length ≤ 140737488355328 by omega)
        refine wx_sound hT _ ?_
        refine WX_rows hT hmix [(0, none), (1, none), (2, none), (3, none), (4, none), (5, none), (6, none), (7, none), (8, none), (9, none), (10, none), (11, none), (12, none), (13, none), (14, none), (15, none), (16, none), (17, none)] (by kernel_rfl) ?_
        repeat' (first | simp only [go_sem, Nat.reduceLT, Nat.reduceEqDiff, Nat.reduceAdd, Nat.reduceMul, Nat.reduceSub, Nat.reduceLeDiff, Int.reduceToNat, Int.reduceNeg, Int.reduceLT, Int.reduceLE, Int.reduceEq, reduceCtorEq, Int.natCast_zero, Int.natCast_one, Int.cast_ofNat_Int, Bool.not_not, false_eq_decide, true_eq_decide, hread0, hreadk, read_cons0, read_consk, astore_h0, astore_hk, hget0, hgetk, hset0, hsetk, hlen, hcat, Nat.add_assoc, Nat.add_zero, Nat.zero_add, List.length_append, and_true, true_and, AV.flat, hb0, get_app hb0, read_get hb0, read_app hb0, hbP, get_app hbP, read_get hbP, read_app hbP, str_cells, *, -hK, -hps, -hla, -hlenP, -hc, -hss] | with_reducible refine IfB_dec (fun h => ?_) (fun h => ?_) | with_reducible refine Guard_dec (fun h => ?_) (fun h => ?_) | with_reducible refine Guard_ndec (fun h => ?_) (fun h => ?_) | with_reducible refine Guard_not (fun h => ?_) (fun h => ?_) | with_reducible refine IfB_ndec (fun h => ?_) (fun h => ?_) | with_reducible refine IfB_not (fun h => ?_) (fun h => ?_) | with_reducible refine Guard_split (fun h => ?_) (fun h => ?_) | with_reducible refine IfB_split (fun h => ?_) (fun h => ?_))
        case refine_1 =>
          refine hR3 _ _ (by (repeat (first | exact hs | refine hA _ _ _ (by decide) ?_))) (c.keys.length - (b + 1)) (by omega) ⟨b + 1, rfl, by simp only [go_sem, Nat.reduceLT, Nat.reduceEqDiff, Nat.reduceAdd, Nat.reduceMul, Nat.reduceSub, Nat.reduceLeDiff, Int.reduceToNat, Int.reduceNeg, Int.reduceLT, Int.reduceLE, Int.reduceEq, reduceCtorEq], by omega, ?_, rfl, by (repeat (first | exact hAf | refine hA0 _ _ _ (by decide) ?_)), by (repeat (first | exact hAf2 | refine hA1 _ _ _ (by decide) ?_))⟩
          rw [List.drop_eq_getElem_cons hbl] at hss
          rcases List.sublist_cons_iff.1 hss with hs1 | ⟨r, hr1, hr2⟩
          · exact hs1
          · have := (List.cons.inj hr1).1
            exact absurd this.symm ‹¬ _ = _›
        all_goals
          refine hR2 _ _ (by (repeat (first | exact hAf2 | refine hA1 _ _ _ (by decide) ?_))) (P.length - (k + 1)) (by omega) ⟨k + 1, b, rfl, by omega, by simp only [go_sem, Nat.reduceLT, Nat.reduceEqDiff, Nat.reduceAdd, Nat.reduceMul, Nat.reduceSub, Nat.reduceLeDiff, Int.reduceToNat, Int.reduceNeg, Int.reduceLT, Int.reduceLE, Int.reduceEq, reduceCtorEq], by simp only [go_sem, Nat.reduceLT, Nat.reduceEqDiff, Nat.reduceAdd, Nat.reduceMul, Nat.reduceSub, Nat.reduceLeDiff, Int.reduceToNat, Int.reduceNeg, Int.reduceLT, Int.reduceLE, Int.reduceEq, reduceCtorEq, g15], by omega, (List.sublist_cons_self _ _).trans hss, rfl, by (repeat (first | exact hAf | refine hA0 _ _ _ (by decide) ?_))⟩
      case refine_2 =>
        have hkk : k = P.length := by omega
        have w1 : IntKind.i64.wrap ((((sl.take i).map fun sh => (partL c sh n).keys.length).sum : Nat) + (P.length : Int)) = ((((sl.take (i + 1)).map fun sh => (partL c sh n).keys.length).sum : Nat) : Int) := by
          have hle : ((sl.take (i + 1)).map fun sh => (partL c sh n).keys.length).sum ≤ c.keys.length := by
            rw [← hps, ← List.take_append_drop (i + 1) sl, List.map_append, List.sum_append, List.take_append_drop]; omega
          have he : ((sl.take (i + 1)).map fun sh => (partL c sh n).keys.length).sum = ((sl.take i).map fun sh => (partL c sh n).keys.length).sum + P.length := by
            rw [List.take_succ_eq_append_getElem hlt, List.map_append, List.sum_append]; simp [hlenP]
          rw [i64_id _ (by omega) (by omega)]; omega
        repeat' (first | simp only [go_sem, Nat.reduceLT, Nat.reduceEqDiff, Nat.reduceAdd, Nat.reduceMul, Nat.reduceSub, Nat.reduceLeDiff, Int.reduceToNat, Int.reduceNeg, Int.reduceLT, Int.reduceLE, Int.reduceEq, reduceCtorEq, Int.natCast_zero, Int.natCast_one, Int.cast_ofNat_Int, Bool.not_not, false_eq_decide, true_eq_decide, hread0, hreadk, read_cons0, read_consk, astore_h0, astore_hk, hget0, hgetk, hset0, hsetk, hlen, hcat, Nat.add_assoc, Nat.add_zero, Nat.zero_add, List.length_append, and_true, true_and, AV.flat, hb0, get_app hb0, read_get hb0, read_app hb0, hbP, get_app hbP, read_get hbP, read_app hbP, *, -hK, -hps, -hla, -hlenP, -hc] | with_reducible refine IfB_dec (fun h => ?_) (fun h => ?_) | with_reducible refine Guard_dec (fun h => ?_) (fun h => ?_) | with_reducible refine Guard_ndec (fun h => ?_) (fun h => ?_) | with_reducible refine Guard_not (fun h => ?_) (fun h => ?_) | with_reducible refine IfB_ndec (fun h => ?_) (fun h => ?_) | with_reducible refine IfB_not (fun h => ?_) (fun h => ?_) | with_reducible refine Guard_split (fun h => ?_) (fun h => ?_) | with_reducible refine IfB_split (fun h => ?_) (fun h => ?_))
        refine hR _ _ (by (repeat (first | exact hAf | refine hA0 _ _ _ (by decide) ?_))) (sl.length - (i + 1)) (by omega) ⟨i + 1, sl[i], rfl, by omega, by simp only [go_sem, Nat.reduceLT, Nat.reduceEqDiff, Nat.reduceAdd, Nat.reduceMul, Nat.reduceSub, Nat.reduceLeDiff, Int.reduceToNat, Int.reduceNeg, Int.reduceLT, Int.reduceLE, Int.reduceEq, reduceCtorEq], by simp only [go_sem, Nat.reduceLT, Nat.reduceEqDiff, Nat.reduceAdd, Nat.reduceMul, Nat.reduceSub, Nat.reduceLeDiff, Int.reduceToNat, Int.reduceNeg, Int.reduceLT, Int.reduceLE, Int.reduceEq, reduceCtorEq, s9], by simp only [go_sem, Nat.reduceLT, Nat.reduceEqDiff, Nat.reduceAdd, Nat.reduceMul, Nat.reduceSub, Nat.reduceLeDiff, Int.reduceToNat, Int.reduceNeg, Int.reduceLT, Int.reduceLE, Int.reduceEq, reduceCtorEq], fun z hz => ?_, (hmem _ hm).2, kk.trans kG⟩
        have hp := hsrt
        rw [← List.take_append_drop (i + 1) sl, List.pairwise_append] at hp
        exact hp.2.2 _ (by rw [List.take_succ_eq_append_getElem hlt]; exact List.mem_append_right _ (List.mem_singleton.2 rfl)) z hz
  · obtain rfl := p5 h11
    have e0 : aindexAddr T 28 ((Enc.int .i64).lst [sl[i]]) (.int .i64 0) = some (.cptr ((Enc.int .i64).cells sl[i])) := at_enc (E := Enc.int .i64) (T := T) (xs := [sl[i]]) se28 (i := 0) (by simp) (k := .i64) (z := 0) rfl
    by_cases hl1 : (sl.length : Int) = 1
    · have sm := smT (by omega)
      clear smT
      refine WX_rows hT hmix [(0, none), (1, none), (2, none), (3, none), (4, none), (5, none), (6, none), (7, none), (8, none), (9, none), (10, none), (11, none), (12, none), (13, none), (14, none), (15, none), (16, none), (17, none), (18, none), (19, none), (20, none), (21, none), (22, none), (23, none), (24, none), (25, none), (26, none), (27, none), (28, none), (29, some [true, true, true, true, true, true, true, true, true, true, true, true, true, true, true, true, true, true, true, true, true, true, true, true, true, true, true, true, true]), (30, none), (31, none), (32, none)] (by kernel_rfl) ?_
      repeat' (first | simp only [go_sem, Nat.reduceLT, Nat.reduceEqDiff, Nat.reduceAdd, Nat.reduceMul, Nat.reduceSub, Nat.reduceLeDiff, Int.reduceToNat, Int.reduceNeg, Int.reduceLT, Int.reduceLE, Int.reduceEq, reduceCtorEq, Int.natCast_zero, Int.natCast_one, Int.cast_ofNat_Int, Bool.not_not, false_eq_decide, true_eq_decide, hread0, hreadk, read_cons0, read_consk, astore_h0, astore_hk, hget0, hgetk, hset0, hsetk, hlen, hcat, Nat.add_assoc, Nat.add_zero, Nat.zero_add, List.length_append, and_true, true_and, AV.flat, int_cells, hb0, get_app hb0, read_get hb0, read_app hb0, *, -hK, -hc, -hps, -hla, -ps, -cs, -ss, -sm, -p1, -p2, -p3, -p4, -p5, -p6, -hLS] | refine WC.call (sm _) ?_ | with_reducible refine IfB_dec (fun h => ?_) (fun h => ?_) | with_reducible refine Guard_dec (fun h => ?_) (fun h => ?_) | with_reducible refine Guard_ndec (fun h => ?_) (fun h => ?_) | with_reducible refine Guard_not (fun h => ?_) (fun h => ?_) | with_reducible refine IfB_ndec (fun h => ?_) (fun h => ?_) | with_reducible refine IfB_not (fun h => ?_) (fun h => ?_) | with_reducible refine Guard_split (fun h => ?_) (fun h => ?_) | with_reducible refine IfB_split (fun h => ?_) (fun h => ?_))
      clear sm
      clear hpf ps cs ss hLS p6 p5 p4 p3
      generalize hG : (H1 ++ [(⟨[.int .u8 c.kind, .int .i64 c.ten, Enc.str.lst P, .str c.val, .int .u32 c.flags, .int .i64 c.for_, .int .u64 c.uniq, .int .u64 c.by_], 0, .full⟩ : Blk)] : Heap) = G
      have hbP : G[H1.length]? = some ⟨[.int .u8 c.kind, .int .i64 c.ten, Enc.str.lst P, .str c.val, .int .u32 c.flags, .int .i64 c.for_, .int .u64 c.uniq, .int .u64 c.by_], 0, .full⟩ := by rw [← hG, hget0]; rfl
      have kG : Keep none H1 G := by rw [← hG]; exact Keep.app _ _ _
      have hb0 := kG.get hb0 (by simp)
      clear hG
      have o1 := s1
      have o2 := s2
      have o6 := s6
      have hA0 := hA
      refine WX_loopS [1, 2, 6, 8, 9, 10, 11] (fun q fr2 H2 => ∃ k a : Nat, q = P.length - k ∧ k ≤ P.length ∧ fr2.get 16 = .int .i64 k ∧ fr2.get 15 = .int .i64 a ∧ a ≤ c.keys.length ∧ (P.drop k).Sublist (c.keys.drop a) ∧ H2 = G ∧ A fr2) P.length ⟨0, 0, rfl, by omega, by simp only [go_sem, Nat.reduceLT, Nat.reduceEqDiff, Nat.reduceAdd, Nat.reduceMul, Nat.reduceSub, Nat.reduceLeDiff, Int.reduceToNat, Int.reduceNeg, Int.reduceLT, Int.reduceLE, Int.reduceEq, reduceCtorEq]; rfl, by simp only [go_sem, Nat.reduceLT, Nat.reduceEqDiff, Nat.reduceAdd, Nat.reduceMul, Nat.reduceSub, Nat.reduceLeDiff, Int.reduceToNat, Int.reduceNeg, Int.reduceLT, Int.reduceLE, Int.reduceEq, reduceCtorEq]; rfl, by omega, by simpa using hsub, rfl, by (repeat (first | exact hs | refine hA _ _ _ (by decide) ?_))⟩ ?_
      clear hg hs hA
      rintro q fr2 H2 A2 R2 hA hs hg hR2 ⟨k, a, rfl, hk, g16, g15, ha, hss, rfl, hAf⟩
      have s1 := hg 1 (by decide)
      have s2 := hg 2 (by decide)
      have s6 := hg 6 (by decide)
      have s8 := hg 8 (by decide)
      have s9 := hg 9 (by decide)
      have s10 := hg 10 (by decide)
      have s11 := hg 11 (by decide)
      simp only [Fr.get_put, Fr.get_init, List.getD_cons_zero, List.getD_cons_succ, Nat.reduceEqDiff, if_true, if_false] at s1 s2 s6 s8 s9 s10 s11
      rw [o1] at s1
      rw [o2] at s2
      rw [o6] at s6
      rw [f8] at s8
      rw [f10] at s10
      refine wx_sound hT _ ?_
      repeat' (first | simp only [go_sem, Nat.reduceLT, Nat.reduceEqDiff, Nat.reduceAdd, Nat.reduceMul, Nat.reduceSub, Nat.reduceLeDiff, Int.reduceToNat, Int.reduceNeg, Int.reduceLT, Int.reduceLE, Int.reduceEq, reduceCtorEq, Int.natCast_zero, Int.natCast_one, Int.cast_ofNat_Int, Bool.not_not, false_eq_decide, true_eq_decide, hread0, hreadk, read_cons0, read_consk, astore_h0, astore_hk, hget0, hgetk, hset0, hsetk, hlen, hcat, Nat.add_assoc, Nat.add_zero, Nat.zero_add, List.length_append, and_true, true_and, AV.flat, hb0, get_app hb0, read_get hb0, read_app hb0, hbP, get_app hbP, read_get hbP, read_app hbP, *, -hK, -hps, -hla, -hlenP, -hc] | with_reducible refine IfB_dec (fun h => ?_) (fun h => ?_) | with_reducible refine Guard_dec (fun h => ?_) (fun h => ?_) | with_reducible refine Guard_ndec (fun h => ?_) (fun h => ?_) | with_reducible refine Guard_not (fun h => ?_) (fun h => ?_) | with_reducible refine IfB_ndec (fun h => ?_) (fun h => ?_) | with_reducible refine IfB_not (fun h => ?_) (fun h => ?_) | with_reducible refine Guard_split (fun h => ?_) (fun h => ?_) | with_reducible refine IfB_split (fun h => ?_) (fun h => ?_))
      case refine_1 =>
        have hkl : k < P.length := by omega
        have q1 := s1
        have q2 := s2
        have q6 := s6
        have q8 := s8
        have q9 := s9
        have q10 := s10
        have q11 := s11
        have hA1 := hA
        have hx : P.drop k = P[k] :: P.drop (k + 1) := List.drop_eq_getElem_cons hkl
        rw [hx] at hss
        refine WX_loopS [1, 2, 6, 8, 9, 10, 11, 16] (fun q fr3 H3 => ∃ b : Nat, q = c.keys.length - b ∧ fr3.get 15 = .int .i64 b ∧ b ≤ c.keys.length ∧ (P[k] :: P.drop (k + 1)).Sublist (c.keys.drop b) ∧ H3 = H2 ∧ A fr3 ∧ A2 fr3) (c.keys.length - a) ⟨a, rfl, by simp only [go_sem, Nat.reduceLT, Nat.reduceEqDiff, Nat.reduceAdd, Nat.reduceMul, Nat.reduceSub, Nat.reduceLeDiff, Int.reduceToNat, Int.reduceNeg, Int.reduceLT, Int.reduceLE, Int.reduceEq, reduceCtorEq, g15], ha, hss, rfl, by (repeat (first | exact hAf | refine hA0 _ _ _ (by decide) ?_)), by (repeat (first | exact hs | refine hA1 _ _ _ (by decide) ?_))⟩ ?_
        clear hg hs hA hss
        rintro q fr3 H3 A3 R3 hA hs hg hR3 ⟨b, rfl, g15, hb, hss, rfl, hAf, hAf2⟩
        have s1 := hg 1 (by decide)
        have s2 := hg 2 (by decide)
        have s6 := hg 6 (by decide)
        have s8 := hg 8 (by decide)
        have s9 := hg 9 (by decide)
        have s10 := hg 10 (by decide)
        have s11 := hg 11 (by decide)
        have s16 := hg 16 (by decide)
        simp only [Fr.get_put, Fr.get_init, List.getD_cons_zero, List.getD_cons_succ, Nat.reduceEqDiff, if_true, if_false] at s1 s2 s6 s8 s9 s10 s11 s16
        rw [q1] at s1
        rw [q2] at s2
        rw [q6] at s6
        rw [q8] at s8
        rw [q9] at s9
        rw [q10] at s10
        rw [q11] at s11
        rw [g16] at s16
        clear q1 q2 q6 q8 q9 q10 q11
        have hbl : b < c.keys.length := by
          by_cases h : b < c.keys.length
          · exact h
          · rw [List.drop_eq_nil_of_le (show c.keys.length ≤ b by omega)] at hss
            have := hss.length_le
            simp at this
            omega
        have w1 := at_enc (E := Enc.str) (T := T) (k := .i64) se22 hbl rfl
        have w2 := at_enc (E := Enc.str) (T := T) (k := .i64) se22 hkl rfl
        have w3 := inc_id hbl (show c.keys.length ≤ 140737488355328 by omega)
        have w4 : (b : Int) < c.keys.length := by omega
        have w5 : ¬ (b : Int) = c.keys.length := by omega
        have w6 := inc_id hkl (show P.length ≤ 140737488355328 by omega)
        refine wx_sound hT _ ?_
        refine WX_rows hT hmix [(0, none), (1, none), (2, none), (3, none), (4, none), (5, none), (6, none), (7, none), (8, none), (9, none), (10, none), (11, none), (12, none), (13, none), (14, none), (15, none), (16, none), (17, none)] (by kernel_rfl) ?_
        repeat' (first | simp only [go_sem, Nat.reduceLT, Nat.reduceEqDiff, Nat.reduceAdd, Nat.reduceMul, Nat.reduceSub, Nat.reduceLeDiff, Int.reduceToNat, Int.reduceNeg, Int.reduceLT, Int.reduceLE, Int.reduceEq, reduceCtorEq, Int.natCast_zero, Int.natCast_one, Int.cast_ofNat_Int, Bool.not_not, false_eq_decide, true_eq_decide, hread0, hreadk, read_cons0, read_consk, astore_h0, astore_hk, hget0, hgetk, hset0, hsetk, hlen, hcat, Nat.add_assoc, Nat.add_zero, Nat.zero_add, List.length_append, and_true, true_and, AV.flat, hb0, get_app hb0, read_get hb0, read_app hb0, hbP, get_app hbP, read_get hbP, read_app hbP, str_cells, *, -hK, -hps, -hla, -hlenP, -hc, -hss] | with_reducible refine IfB_dec (fun h => ?_) (fun h => ?_) | with_reducible refine Guard_dec (fun h => ?_) (fun h => ?_) | with_reducible refine Guard_ndec (fun h => ?_) (fun h => ?_) | with_reducible refine Guard_not (fun h => ?_) (fun h => ?_) | with_reducible refine IfB_ndec (fun h => ?_) (fun h => ?_) | with_reducible refine IfB_not (fun h => ?_) (fun h => ?_) | with_reducible refine Guard_split (fun h => ?_) (fun h => ?_) | with_reducible refine IfB_split (fun h => ?_) (fun h => ?_))
        case refine_1 =>
          refine hR3 _ _ (by (repeat (first | exact hs | refine hA _ _ _ (by decide) ?_))) (c.keys.length - (b + 1)) (by omega) ⟨b + 1, rfl, by simp only [go_sem, Nat.reduceLT, Nat.reduceEqDiff, Nat.reduceAdd, Nat.reduceMul, Nat.reduceSub, Nat.reduceLeDiff, Int.reduceToNat, Int.reduceNeg, Int.reduceLT, Int.reduceLE, Int.reduceEq, reduceCtorEq], by omega, ?_, rfl, by (repeat (first | exact hAf | refine hA0 _ _ _ (by decide) ?_)), by (repeat (first | exact hAf2 | refine hA1 _ _ _ (by decide) ?_))⟩
          rw [List.drop_eq_getElem_cons hbl] at hss
          rcases List.sublist_cons_iff.1 hss with hs1 | ⟨r, hr1, hr2⟩
          · exact hs1
          · have := (List.cons.inj hr1).1
            exact absurd this.symm ‹¬ _ = _›
        all_goals
          refine hR2 _ _ (by (repeat (first | exact hAf2 | refine hA1 _ _ _ (by decide) ?_))) (P.length - (k + 1)) (by omega) ⟨k + 1, b, rfl, by omega, by simp only [go_sem, Nat.reduceLT, Nat.reduceEqDiff, Nat.reduceAdd, Nat.reduceMul, Nat.reduceSub, Nat.reduceLeDiff, Int.reduceToNat, Int.reduceNeg, Int.reduceLT, Int.reduceLE, Int.reduceEq, reduceCtorEq], by simp only [go_sem, Nat.reduceLT, Nat.reduceEqDiff, Nat.reduceAdd, Nat.reduceMul, Nat.reduceSub, Nat.reduceLeDiff, Int.reduceToNat, Int.reduceNeg, Int.reduceLT, Int.reduceLE, Int.reduceEq, reduceCtorEq, g15], by omega, (List.sublist_cons_self _ _).trans hss, rfl, by (repeat (first | exact hAf | refine hA0 _ _ _ (by decide) ?_))⟩
      case refine_2 =>
        have hkk : k = P.length := by omega
        have w1 : IntKind.i64.wrap ((((sl.take i).map fun sh => (partL c sh n).keys.length).sum : Nat) + (P.length : Int)) = ((((sl.take (i + 1)).map fun sh => (partL c sh n).keys.length).sum : Nat) : Int) := by
          have hle : ((sl.take (i + 1)).map fun sh => (partL c sh n).keys.length).sum ≤ c.keys.length := by
            rw [← hps, ← List.take_append_drop (i + 1) sl, List.map_append, List.sum_append, List.take_append_drop]; omega
          have he : ((sl.take (i + 1)).map fun sh => (partL c sh n).keys.length).sum = ((sl.take i).map fun sh => (partL c sh n).keys.length).sum + P.length := by
            rw [List.take_succ_eq_append_getElem hlt, List.map_append, List.sum_append]; simp [hlenP]
          rw [i64_id _ (by omega) (by omega)]; omega
        repeat' (first | simp only [go_sem, Nat.reduceLT, Nat.reduceEqDiff, Nat.reduceAdd, Nat.reduceMul, Nat.reduceSub, Nat.reduceLeDiff, Int.reduceToNat, Int.reduceNeg, Int.reduceLT, Int.reduceLE, Int.reduceEq, reduceCtorEq, Int.natCast_zero, Int.natCast_one, Int.cast_ofNat_Int, Bool.not_not, false_eq_decide, true_eq_decide, hread0, hreadk, read_cons0, read_consk, astore_h0, astore_hk, hget0, hgetk, hset0, hsetk, hlen, hcat, Nat.add_assoc, Nat.add_zero, Nat.zero_add, List.length_append, and_true, true_and, AV.flat, hb0, get_app hb0, read_get hb0, read_app hb0, hbP, get_app hbP, read_get hbP, read_app hbP, *, -hK, -hps, -hla, -hlenP, -hc] | with_reducible refine IfB_dec (fun h => ?_) (fun h => ?_) | with_reducible refine Guard_dec (fun h => ?_) (fun h => ?_) | with_reducible refine Guard_ndec (fun h => ?_) (fun h => ?_) | with_reducible refine Guard_not (fun h => ?_) (fun h => ?_) | with_reducible refine IfB_ndec (fun h => ?_) (fun h => ?_) | with_reducible refine IfB_not (fun h => ?_) (fun h => ?_) | with_reducible refine Guard_split (fun h => ?_) (fun h => ?_) | with_reducible refine IfB_split (fun h => ?_) (fun h => ?_))
        refine hR _ _ (by (repeat (first | exact hAf | refine hA0 _ _ _ (by decide) ?_))) (sl.length - (i + 1)) (by omega) ⟨i + 1, sl[i], rfl, by omega, by simp only [go_sem, Nat.reduceLT, Nat.reduceEqDiff, Nat.reduceAdd, Nat.reduceMul, Nat.reduceSub, Nat.reduceLeDiff, Int.reduceToNat, Int.reduceNeg, Int.reduceLT, Int.reduceLE, Int.reduceEq, reduceCtorEq], by simp only [go_sem, Nat.reduceLT, Nat.reduceEqDiff, Nat.reduceAdd, Nat.reduceMul, Nat.reduceSub, Nat.reduceLeDiff, Int.reduceToNat, Int.reduceNeg, Int.reduceLT, Int.reduceLE, Int.reduceEq, reduceCtorEq, s9], by simp only [go_sem, Nat.reduceLT, Nat.reduceEqDiff, Nat.reduceAdd, Nat.reduceMul, Nat.reduceSub, Nat.reduceLeDiff, Int.reduceToNat, Int.reduceNeg, Int.reduceLT, Int.reduceLE, Int.reduceEq, reduceCtorEq], fun z hz => ?_, (hmem _ hm).2, kk.trans kG⟩
        have hp := hsrt
        rw [← List.take_append_drop (i + 1) sl, List.pairwise_append] at hp
        exact hp.2.2 _ (by rw [List.take_succ_eq_append_getElem hlt]; exact List.mem_append_right _ (List.mem_singleton.2 rfl)) z hz
    · clear smT
      refine WX_rows hT hmix [(0, none), (1, none), (2, none), (3, none), (4, none), (5, none), (6, none), (7, none), (8, none), (9, none), (10, none), (11, none), (12, none), (13, none), (14, none), (15, none), (16, none), (17, none), (18, none), (19, none), (20, none), (21, none), (22, none), (23, none), (24, none), (25, none), (26, none), (27, none), (28, none), (29, some [true, true, true, true, true, true, true, true, true, true, true, true, true, true, true, true, true, true, true, true, true, true, true, true, true, true, true, true, true]), (30, none), (31, none), (32, none)] (by kernel_rfl) ?_
      repeat' (first | simp only [go_sem, Nat.reduceLT, Nat.reduceEqDiff, Nat.reduceAdd, Nat.reduceMul, Nat.reduceSub, Nat.reduceLeDiff, Int.reduceToNat, Int.reduceNeg, Int.reduceLT, Int.reduceLE, Int.reduceEq, reduceCtorEq, Int.natCast_zero, Int.natCast_one, Int.cast_ofNat_Int, Bool.not_not, false_eq_decide, true_eq_decide, hread0, hreadk, read_cons0, read_consk, astore_h0, astore_hk, hget0, hgetk, hset0, hsetk, hlen, hcat, Nat.add_assoc, Nat.add_zero, Nat.zero_add, List.length_append, and_true, true_and, AV.flat, int_cells, hb0, get_app hb0, read_get hb0, read_app hb0, *, -hK, -hc, -hps, -hla, -ps, -cs, -ss, -p1, -p2, -p3, -p4, -p5, -p6, -hLS] | with_reducible refine IfB_dec (fun h => ?_) (fun h => ?_) | with_reducible refine Guard_dec (fun h => ?_) (fun h => ?_) | with_reducible refine Guard_ndec (fun h => ?_) (fun h => ?_) | with_reducible refine Guard_not (fun h => ?_) (fun h => ?_) | with_reducible refine IfB_ndec (fun h => ?_) (fun h => ?_) | with_reducible refine IfB_not (fun h => ?_) (fun h => ?_) | with_reducible refine Guard_split (fun h => ?_) (fun h => ?_) | with_reducible refine IfB_split (fun h => ?_) (fun h => ?_))
      clear hpf ps cs ss hLS p6 p5 p4 p3
      generalize hG : (H1 ++ [(⟨[.int .u8 c.kind, .int .i64 c.ten, Enc.str.lst P, .str c.val, .int .u32 c.flags, .int .i64 c.for_, .int .u64 c.uniq, .int .u64 c.by_], 0, .full⟩ : Blk)] : Heap) = G
      have hbP : G[H1.length]? = some ⟨[.int .u8 c.kind, .int .i64 c.ten, Enc.str.lst P, .str c.val, .int .u32 c.flags, .int .i64 c.for_, .int .u64 c.uniq, .int .u64 c.by_], 0, .full⟩ := by rw [← hG, hget0]; rfl
      have kG : Keep none H1 G := by rw [← hG]; exact Keep.app _ _ _
      have hb0 := kG.get hb0 (by simp)
      clear hG
      have o1 := s1
      have o2 := s2
      have o6 := s6
      have hA0 := hA
      refine WX_loopS [1, 2, 6, 8, 9, 10, 11] (fun q fr2 H2 => ∃ k a : Nat, q = P.length - k ∧ k ≤ P.length ∧ fr2.get 16 = .int .i64 k ∧ fr2.get 15 = .int .i64 a ∧ a ≤ c.keys.length ∧ (P.drop k).Sublist (c.keys.drop a) ∧ H2 = G ∧ A fr2) P.length ⟨0, 0, rfl, by omega, by simp only [go_sem, Nat.reduceLT, Nat.reduceEqDiff, Nat.reduceAdd, Nat.reduceMul, Nat.reduceSub, Nat.reduceLeDiff, Int.reduceToNat, Int.reduceNeg, Int.reduceLT, Int.reduceLE, Int.reduceEq, reduceCtorEq]; rfl, by simp only [go_sem, Nat.reduceLT, Nat.reduceEqDiff, Nat.reduceAdd, Nat.reduceMul, Nat.reduceSub, Nat.reduceLeDiff, Int.reduceToNat, Int.reduceNeg, Int.reduceLT, Int.reduceLE, Int.reduceEq, reduceCtorEq]; rfl, by omega, by simpa using hsub, rfl, by (repeat (first | exact hs | refine hA _ _ _ (by decide) ?_))⟩ ?_
      clear hg hs hA
      rintro q fr2 H2 A2 R2 hA hs hg hR2 ⟨k, a, rfl, hk, g16, g15, ha, hss, rfl, hAf⟩
      have s1 := hg 1 (by decide)
      have s2 := hg 2 (by decide)
      have s6 := hg 6 (by decide)
      have s8 := hg 8 (by decide)
      have s9 := hg 9 (by decide)
      have s10 := hg 10 (by decide)
      have s11 := hg 11 (by decide)
      simp only [Fr.get_put, Fr.get_init, List.getD_cons_zero, List.getD_cons_succ, Nat.reduceEqDiff, if_true, if_false] at s1 s2 s6 s8 s9 s10 s11
      rw [o1] at s1
      rw [o2] at s2
      rw [o6] at s6
      rw [f8] at s8
      rw [f10] at s10
      refine wx_sound hT _ ?_
      repeat' (first | simp only [go_sem, Nat.reduceLT, Nat.reduceEqDiff, Nat.reduceAdd, Nat.reduceMul, Nat.reduceSub, Nat.reduceLeDiff, Int.reduceToNat, Int.reduceNeg, Int.reduceLT, Int.reduceLE, Int.reduceEq, reduceCtorEq, Int.natCast_zero, Int.natCast_one, Int.cast_ofNat_Int, Bool.not_not, false_eq_decide, true_eq_decide, hread0, hreadk, read_cons0, read_consk, astore_h0, astore_hk, hget0, hgetk, hset0, hsetk, hlen, hcat, Nat.add_assoc, Nat.add_zero, Nat.zero_add, List.length_append, and_true, true_and, AV.flat, hb0, get_app hb0, read_get hb0, read_app hb0, hbP, get_app hbP, read_get hbP, read_app hbP, *, -hK, -hps, -hla, -hlenP, -hc] | with_reducible refine IfB_dec (fun h => ?_) (fun h => ?_) | with_reducible refine Guard_dec (fun h => ?_) (fun h => ?_) | with_reducible refine Guard_ndec (fun h => ?_) (fun h => ?_) | with_reducible refine Guard_not (fun h => ?_) (fun h => ?_) | with_reducible refine IfB_ndec (fun h => ?_) (fun h => ?_) | with_reducible refine IfB_not (fun h => ?_) (fun h => ?_) | with_reducible refine Guard_split (fun h => ?_) (fun h => ?_) | with_reducible refine IfB_split (fun h => ?_) (fun h => ?_))
      case refine_1 =>
        have hkl : k < P.length := by omega
        have q1 := s1
        have q2 := s2
        have q6 := s6
        have q8 := s8
        have q9 := s9
        have q10 := s10
        have q11 := s11
        have hA1 := hA
        have hx : P.drop k = P[k] :: P.drop (k + 1) := List.drop_eq_getElem_cons hkl
        rw [hx] at hss
        refine WX_loopS [1, 2, 6, 8, 9, 10, 11, 16] (fun q fr3 H3 => ∃ b : Nat, q = c.keys.length - b ∧ fr3.get 15 = .int .i64 b ∧ b ≤ c.keys.length ∧ (P[k] :: P.drop (k + 1)).Sublist (c.keys.drop b) ∧ H3 = H2 ∧ A fr3 ∧ A2 fr3) (c.keys.length - a) ⟨a, rfl, by simp only [go_sem, Nat.reduceLT, Nat.reduceEqDiff, Nat.reduceAdd, Nat.reduceMul, Nat.reduceSub, Nat.reduceLeDiff, Int.reduceToNat, Int.reduceNeg, Int.reduceLT, Int.reduceLE, Int.reduceEq, reduceCtorEq, g15], ha, hss, rfl, by (repeat (first | exact hAf | refine hA0 _ _ _ (by decide) ?_)), by (repeat (first | exact hs | refine hA1 _ _ _ (by decide) ?_))⟩ ?_
        clear hg hs hA hss
        rintro q fr3 H3 A3 R3 hA hs hg hR3 ⟨b, rfl, g15, hb, hss, rfl, hAf, hAf2⟩
        have s1 := hg 1 (by decide)
        have s2 := hg 2 (by decide)
        have s6 := hg 6 (by decide)
        have s8 := hg 8 (by decide)
        have s9 := hg 9 (by decide)
        have s10 := hg 10 (by decide)
        have s11 := hg 11 (by decide)
        have s16 := hg 16 (by decide)
        simp only [Fr.get_put, Fr.get_init, List.getD_cons_zero, List.getD_cons_succ, Nat.reduceEqDiff, if_true, if_false] at s1 s2 s6 s8 s9 s10 s11 s16
        rw [q1] at s1
        rw [q2] at s2
        rw [q6] at s6
        rw [q8] at s8
        rw [q9] at s9
        rw [q10] at s10
        rw [q11] at s11
        rw [g16] at s16
        clear q1 q2 q6 q8 q9 q10 q11
        have hbl : b < c.keys.length := by
          by_cases h : b < c.keys.length
          · exact h
          · rw [List.drop_eq_nil_of_le (show c.keys.length ≤ b by omega)] at hss
            have := hss.length_le
            simp at this
            omega
        have w1 := at_enc (E := Enc.str) (T := T) (k := .i64) se22 hbl rfl
        have w2 := at_enc (E := Enc.str) (T := T) (k := .i64) se22 hkl rfl
        have w3 := inc_id hbl (show c.keys.length ≤ 140737488355328 by omega)
        have w4 : (b : Int) < c.keys.length := by omega
        have w5 : ¬ (b : Int) = c.keys.length := by omega
        have w6 := inc_id hkl (show P.length ≤ 140737488355328 by omega)
        refine wx_sound hT _ ?_
        refine WX_rows hT hmix [(0, none), (1, none), (2, none), (3, none), (4, none), (5, none), (6, none), (7, none), (8, none), (9, none), (10, none), (11, none), (12, none), (13, none), (14, none), (15, none), (16, none), (17, none)] (by kernel_rfl) ?_
        repeat' (first | simp only [go_sem, Nat.reduceLT, Nat.reduceEqDiff, Nat.reduceAdd, Nat.reduceMul, Nat.reduceSub, Nat.reduceLeDiff, Int.reduceToNat, Int.reduceNeg, Int.reduceLT, Int.reduceLE, Int.reduceEq, reduceCtorEq, Int.natCast_zero, Int.natCast_one, Int.cast_ofNat_Int, Bool.not_not, false_eq_decide, true_eq_decide, hread0, hreadk, read_cons0, read_consk, astore_h0, astore_hk, hget0, hgetk, hset0, hsetk, hlen, hcat, Nat.add_assoc, Nat.add_zero, Nat.zero_add, List.length_append, and_true, true_and, AV.flat, hb0, get_app hb0, read_get hb0, read_app hb0, hbP, get_app hbP, read_get hbP, read_app hbP, str_cells, *, -hK, -hps, -hla, -hlenP, -hc, -hss] | with_reducible refine IfB_dec (fun h => ?_) (fun h => ?_) | with_reducible refine Guard_dec (fun h => ?_) (fun h => ?_) | with_reducible refine Guard_ndec (fun h => ?_) (fun h => ?_) | with_reducible refine Guard_not (fun h => ?_) (fun h => ?_) | with_reducible refine IfB_ndec (fun h => ?_) (fun h => ?_) | with_reducible refine IfB_not (fun h => ?_) (fun h => ?_) | with_reducible refine Guard_split (fun h => ?_) (fun h => ?_) | with_reducible refine IfB_split (fun h => ?_) (fun h => ?_))
        case refine_1 =>
          refine hR3 _ _ (by (repeat (first | exact hs | refine hA _ _ _ (by decide) ?_))) (c.keys.length - (b + 1)) (by omega) ⟨b + 1, rfl, by simp only [go_sem, Nat.reduceLT, Nat.reduceEqDiff, Nat.reduceAdd, Nat.reduceMul, Nat.reduceSub, Nat.reduceLeDiff, Int.reduceToNat, Int.reduceNeg, Int.reduceLT, Int.reduceLE, Int.reduceEq, reduceCtorEq], by omega, ?_, rfl, by (repeat (first | exact hAf | refine hA0 _ _ _ (by decide) ?_)), by (repeat (first | exact hAf2 | refine hA1 _ _ _ (by decide) ?_))⟩
          rw [List.drop_eq_getElem_cons hbl] at hss
          rcases List.sublist_cons_iff.1 hss with hs1 | ⟨r, hr1, hr2⟩
          · exact hs1
          · have := (List.cons.inj hr1).1
            exact absurd this.symm ‹¬ _ = _›
        all_goals
          refine hR2 _ _ (by (repeat (first | exact hAf2 | refine hA1 _ _ _ (by decide) ?_))) (P.length - (k + 1)) (by omega) ⟨k + 1, b, rfl, by omega, by simp only [go_sem, Nat.reduceLT, Nat.reduceEqDiff, Nat.reduceAdd, Nat.reduceMul, Nat.reduceSub, Nat.reduceLeDiff, Int.reduceToNat, Int.reduceNeg, Int.reduceLT, Int.reduceLE, Int.reduceEq, reduceCtorEq], by simp only [go_sem, Nat.reduceLT, Nat.reduceEqDiff, Nat.reduceAdd, Nat.reduceMul, Nat.reduceSub, Nat.reduceLeDiff, Int.reduceToNat, Int.reduceNeg, Int.reduceLT, Int.reduceLE, Int.reduceEq, reduceCtorEq, g15], by omega, (List.sublist_cons_self _ _).trans hss, rfl, by (repeat (first | exact hAf | refine hA0 _ _ _ (by decide) ?_))⟩
      case refine_2 =>
        have hkk : k = P.length := by omega
        have w1 : IntKind.i64.wrap ((((sl.take i).map fun sh => (partL c sh n).keys.length).sum : Nat) + (P.length : Int)) = ((((sl.take (i + 1)).map fun sh => (partL c sh n).keys.length).sum : Nat) : Int) := by
          have hle : ((sl.take (i + 1)).map fun sh => (partL c sh n).keys.length).sum ≤ c.keys.length := by
            rw [← hps, ← List.take_append_drop (i + 1) sl, List.map_append, List.sum_append, List.take_append_drop]; omega
          have he : ((sl.take (i + 1)).map fun sh => (partL c sh n).keys.length).sum = ((sl.take i).map fun sh => (partL c sh n).keys.length).sum + P.length := by
            rw [List.take_succ_eq_append_getElem hlt, List.map_append, List.sum_append]; simp [hlenP]
          rw [i64_id _ (by omega) (by omega)]; omega
        repeat' (first | simp only [go_sem, Nat.reduceLT, Nat.reduceEqDiff, Nat.reduceAdd, Nat.reduceMul, Nat.reduceSub, Nat.reduceLeDiff, Int.reduceToNat, Int.reduceNeg, Int.reduceLT, Int.reduceLE, Int.reduceEq, reduceCtorEq, Int.natCast_zero, Int.natCast_one, Int.cast_ofNat_Int, Bool.not_not, false_eq_decide, true_eq_decide, hread0, hreadk, read_cons0, read_consk, astore_h0, astore_hk, hget0, hgetk, hset0, hsetk, hlen, hcat, Nat.add_assoc, Nat.add_zero, Nat.zero_add, List.length_append, and_true, true_and, AV.flat, hb0, get_app hb0, read_get hb0, read_app hb0, hbP, get_app hbP, read_get hbP, read_app hbP, *, -hK, -hps, -hla, -hlenP, -hc] | with_reducible refine IfB_dec (fun h => ?_) (fun h => ?_) | with_reducible refine Guard_dec (fun h => ?_) (fun h => ?_) | with_reducible refine Guard_ndec (fun h => ?_) (fun h => ?_) | with_reducible refine Guard_not (fun h => ?_) (fun h => ?_) | with_reducible refine IfB_ndec (fun h => ?_) (fun h => ?_) | with_reducible refine IfB_not (fun h => ?_) (fun h => ?_) | with_reducible refine Guard_split (fun h => ?_) (fun h => ?_) | with_reducible refine IfB_split (fun h => ?_) (fun h => ?_))
        refine hR _ _ (by (repeat (first | exact hAf | refine hA0 _ _ _ (by decide) ?_))) (sl.length - (i + 1)) (by omega) ⟨i + 1, sl[i], rfl, by omega, by simp only [go_sem, Nat.reduceLT, Nat.reduceEqDiff, Nat.reduceAdd, Nat.reduceMul, Nat.reduceSub, Nat.reduceLeDiff, Int.reduceToNat, Int.reduceNeg, Int.reduceLT, Int.reduceLE, Int.reduceEq, reduceCtorEq], by simp only [go_sem, Nat.reduceLT, Nat.reduceEqDiff, Nat.reduceAdd, Nat.reduceMul, Nat.reduceSub, Nat.reduceLeDiff, Int.reduceToNat, Int.reduceNeg, Int.reduceLT, Int.reduceLE, Int.reduceEq, reduceCtorEq, s9], by simp only [go_sem, Nat.reduceLT, Nat.reduceEqDiff, Nat.reduceAdd, Nat.reduceMul, Nat.reduceSub, Nat.reduceLeDiff, Int.reduceToNat, Int.reduceNeg, Int.reduceLT, Int.reduceLE, Int.reduceEq, reduceCtorEq], fun z hz => ?_, (hmem _ hm).2, kk.trans kG⟩
        have hp := hsrt
        rw [← List.take_append_drop (i + 1) sl, List.pairwise_append] at hp
        exact hp.2.2 _ (by rw [List.take_succ_eq_append_getElem hlt]; exact List.mem_append_right _ (List.mem_singleton.2 rfl)) z hz
end Go.Proofs.Ytkkgkljikmhldaa
