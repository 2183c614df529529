import Derived.Test.YtakmlfbejbelaaaCodeT
import Derived.Test.YtakmlfbejbelaaaCodeX
set_option linter.unusedSimpArgs false
set_option linter.unusedVariables false
set_option maxRecDepth 100000
set_option maxHeartbeats 4000000
namespace Go.Proofs.Ytakmlfbejbelaaa
open Go Go.Proofs Go.Proofs.PI
theorem alive_spec (H : Heap) : WC Try.prog 35 [] H fun r H' => r = .bool true ∧ H' = H := closed_true (k := 100) (by kernel_rfl) H
theorem ofCmd_keys (b : List UInt8) : (ofCommandL b).1.keys.length ≤ 8 ∧ (ofCommandL b).1.Ok := by
  rcases ofCommandL_or b with h | h
  · obtain ⟨h1, h2⟩ := ofCommandL_e h
    refine ⟨?_, h1⟩
    unfold commandL at h2
    split at h2
    · rename_i hs; exact (shaped_facts hs).2.2.2.2.2.1
    · simp at h2
  · rw [h]; exact ⟨by simp [cmd0], ⟨by simp [cmd0], by simp [cmd0], by simp [cmd0], by simp [cmd0]⟩⟩
theorem codeAsk_walk (avs : List AV) (h : InpPAll T 9 [45, 30] avs) : WC Try.prog 10 avs [] fun v _ => v = .bool true := by
  obtain ⟨a0, _, rfl, h0, h⟩ := h.cons
  obtain ⟨a1, _, rfl, h1, h⟩ := h.cons
  obtain rfl := h.nil
  obtain ⟨c, rfl, ho, hn, hvl⟩ := inp_cmdW h0
  obtain ⟨b, rfl, hb⟩ := inp_bytes h1
  clear h0 h1 h
  generalize ([] : Heap) = H
  have se := fun (H : Heap) (l : List UInt8) => str_enc (T := T) (H := H) (l := l) se30 tk9 tk5
  refine WC_of_K fun K hK => ?_
  refine WC_of_body hT Try.func10 rfl (by simp [Try.f10]) (by simp [Try.f10]) (wx_sound hT _ ?_)
  simp only [Try.f10]
  repeat' (first | simp only [go_sem, Nat.reduceLT, Nat.reduceEqDiff, Nat.reduceAdd, Nat.reduceMul, Nat.reduceSub, Nat.reduceLeDiff, Int.reduceToNat, Int.reduceNeg, Int.reduceLT, Int.reduceLE, Int.reduceEq, reduceCtorEq, Int.natCast_zero, Int.natCast_one, Int.cast_ofNat_Int, Bool.not_not, false_eq_decide, true_eq_decide, hread0, hreadk, read_cons0, read_consk, astore_h0, astore_hk, hget0, hgetk, hset0, hsetk, hlen, hcat, Nat.add_assoc, Nat.add_zero, Nat.zero_add, List.length_append, and_true, true_and, AV.flat, Cmd.av, *, -hK] | refine WC.call (alive_spec _) ?_ | with_reducible refine IfB_dec (fun h => ?_) (fun h => ?_) | with_reducible refine Guard_dec (fun h => ?_) (fun h => ?_) | with_reducible refine Guard_ndec (fun h => ?_) (fun h => ?_) | with_reducible refine Guard_not (fun h => ?_) (fun h => ?_) | with_reducible refine IfB_ndec (fun h => ?_) (fun h => ?_) | with_reducible refine IfB_not (fun h => ?_) (fun h => ?_) | with_reducible refine Guard_split (fun h => ?_) (fun h => ?_) | with_reducible refine IfB_split (fun h => ?_) (fun h => ?_))
  refine WX_loopS [1, 2, 5] (fun k fr' H' => ∃ (i : Nat) (z : Int), k = c.keys.length - i ∧ i ≤ c.keys.length ∧ fr'.get 7 = .int .i64 i ∧ fr'.get 6 = .int .i64 z ∧ H' = H ++ [⟨c.cs, 0, .full⟩]) c.keys.length ⟨0, c.val.length, rfl, by omega, by simp only [go_sem, Nat.reduceLT, Nat.reduceEqDiff, Nat.reduceAdd, Nat.reduceMul, Nat.reduceSub, Nat.reduceLeDiff, Int.reduceToNat, Int.reduceNeg, Int.reduceLT, Int.reduceLE, Int.reduceEq, reduceCtorEq]; rfl, by simp only [go_sem, Nat.reduceLT, Nat.reduceEqDiff, Nat.reduceAdd, Nat.reduceMul, Nat.reduceSub, Nat.reduceLeDiff, Int.reduceToNat, Int.reduceNeg, Int.reduceLT, Int.reduceLE, Int.reduceEq, reduceCtorEq], rfl⟩ ?_
  rintro k fr' H' A R hA hs hg hR ⟨i, z, rfl, hi, f6, f5, rfl⟩
  unfold Cmd.cs at hR ⊢
  have s1 := hg 1 (by decide)
  have s2 := hg 2 (by decide)
  have s5 := hg 5 (by decide)
  simp only [Fr.get_put, Fr.get_init, List.getD_cons_zero, List.getD_cons_succ, Nat.reduceEqDiff, if_true, if_false] at s1 s2 s5
  refine wx_sound hT _ ?_
  repeat' (first | simp only [go_sem, Nat.reduceLT, Nat.reduceEqDiff, Nat.reduceAdd, Nat.reduceMul, Nat.reduceSub, Nat.reduceLeDiff, Int.reduceToNat, Int.reduceNeg, Int.reduceLT, Int.reduceLE, Int.reduceEq, reduceCtorEq, Int.natCast_zero, Int.natCast_one, Int.cast_ofNat_Int, Bool.not_not, false_eq_decide, true_eq_decide, hread0, hreadk, read_cons0, read_consk, astore_h0, astore_hk, hget0, hgetk, hset0, hsetk, hlen, hcat, Nat.add_assoc, Nat.add_zero, Nat.zero_add, List.length_append, and_true, true_and, AV.flat, *, -hK] | with_reducible refine IfB_dec (fun h => ?_) (fun h => ?_) | with_reducible refine Guard_dec (fun h => ?_) (fun h => ?_) | with_reducible refine Guard_ndec (fun h => ?_) (fun h => ?_) | with_reducible refine Guard_not (fun h => ?_) (fun h => ?_) | with_reducible refine IfB_ndec (fun h => ?_) (fun h => ?_) | with_reducible refine IfB_not (fun h => ?_) (fun h => ?_) | with_reducible refine Guard_split (fun h => ?_) (fun h => ?_) | with_reducible refine IfB_split (fun h => ?_) (fun h => ?_))
  case refine_1.refine_1 =>
    have hlt : i < c.keys.length := by omega
    have e1 := at_enc (E := Enc.str) (T := T) (k := .i64) se42 hlt rfl
    have e3 := inc_id hlt hn
    repeat' (first | simp only [go_sem, Nat.reduceLT, Nat.reduceEqDiff, Nat.reduceAdd, Nat.reduceMul, Nat.reduceSub, Nat.reduceLeDiff, Int.reduceToNat, Int.reduceNeg, Int.reduceLT, Int.reduceLE, Int.reduceEq, reduceCtorEq, Int.natCast_zero, Int.natCast_one, Int.cast_ofNat_Int, Bool.not_not, false_eq_decide, true_eq_decide, hread0, hreadk, read_cons0, read_consk, astore_h0, astore_hk, hget0, hgetk, hset0, hsetk, hlen, hcat, Nat.add_assoc, Nat.add_zero, Nat.zero_add, List.length_append, and_true, true_and, AV.flat, str_cells, *, -hK] | with_reducible refine IfB_dec (fun h => ?_) (fun h => ?_) | with_reducible refine Guard_dec (fun h => ?_) (fun h => ?_) | with_reducible refine Guard_ndec (fun h => ?_) (fun h => ?_) | with_reducible refine Guard_not (fun h => ?_) (fun h => ?_) | with_reducible refine IfB_ndec (fun h => ?_) (fun h => ?_) | with_reducible refine IfB_not (fun h => ?_) (fun h => ?_) | with_reducible refine Guard_split (fun h => ?_) (fun h => ?_) | with_reducible refine IfB_split (fun h => ?_) (fun h => ?_))
    exact hR _ _ (by (repeat (first | exact hs | refine hA _ _ _ (by decide) ?_))) (c.keys.length - (i + 1)) (by omega) ⟨i + 1, _, rfl, by omega, by simp only [go_sem, Nat.reduceLT, Nat.reduceEqDiff, Nat.reduceAdd, Nat.reduceMul, Nat.reduceSub, Nat.reduceLeDiff, Int.reduceToNat, Int.reduceNeg, Int.reduceLT, Int.reduceLE, Int.reduceEq, reduceCtorEq], by simp only [go_sem, Nat.reduceLT, Nat.reduceEqDiff, Nat.reduceAdd, Nat.reduceMul, Nat.reduceSub, Nat.reduceLeDiff, Int.reduceToNat, Int.reduceNeg, Int.reduceLT, Int.reduceLE, Int.reduceEq, reduceCtorEq]; rfl, rfl⟩
  all_goals
    clear hR hA hs hg A R
    have cp := fun J => commandP c ho hn J
    have ql := commandL_len c ho
    have hof : (commandL c).2 = 0 → ofCommandL (commandL c).1 = (c, 0) := fun h => ofCommandL_some ⟨ho, Prod.ext rfl h⟩
    have bp := fun J => ofCommand_spec b hb J
    have op := fun J => ofCommand_spec (commandL c).1 (by omega) J
    have sm := fun J => sameCmd01_spec c c hn J
    rw [decide_eq_true rfl] at sm
    obtain ⟨hxk, hxo⟩ := ofCmd_keys b
    have xp := fun J => commandP (ofCommandL b).1 hxo (by omega) J
    have hx0 := fun h => (ofCommandL_e (b := b) h).2
    have hx8 := ofCommandL_or b
    generalize (ofCommandL b) = oc at *
    obtain ⟨x, g⟩ := oc
    simp only at bp xp hx0 hxk hxo hx8
    generalize hce : commandL c = ce at *
    obtain ⟨q, e⟩ := ce
    simp only at cp op hof ql
    have hg8 : ¬ g = 0 → g = 8 := fun h => by rcases hx8 with h' | h'; exact absurd h' h; exact congrArg Prod.snd h'
    clear hx8 hce
    have g0 : g = 0 ∨ ¬ g = 0 := Classical.em _
    have e0 : e = 0 ∨ ¬ e = 0 := Classical.em _
    rcases g0 with rfl | g0
    · have hx1 := hx0 rfl
      rw [hx1] at xp
      simp only at xp
      clear hx0 hg8 hx1
      rcases e0 with rfl | e0
      · have := hof rfl
        rw [this] at op
        simp only at op
        clear hof this
        unfold Cmd.av at cp op bp sm xp
        repeat' (first | simp only [go_sem, Nat.reduceLT, Nat.reduceEqDiff, Nat.reduceAdd, Nat.reduceMul, Nat.reduceSub, Nat.reduceLeDiff, Int.reduceToNat, Int.reduceNeg, Int.reduceLT, Int.reduceLE, Int.reduceEq, reduceCtorEq, Int.natCast_zero, Int.natCast_one, Int.cast_ofNat_Int, Bool.not_not, false_eq_decide, true_eq_decide, hread0, hreadk, read_cons0, read_consk, astore_h0, astore_hk, hget0, hgetk, hset0, hsetk, hlen, hcat, Nat.add_assoc, Nat.add_zero, Nat.zero_add, List.length_append, and_true, true_and, AV.flat, *, -hK, -cp, -op, -bp, -sm, -xp] | refine WC.call (cp _) ?_ | refine WC.call (op _) ?_ | refine WC.call (bp _) ?_ | refine WC.call (sm _) ?_ | refine WC.call (xp _) ?_ | with_reducible refine IfB_dec (fun h => ?_) (fun h => ?_) | with_reducible refine Guard_dec (fun h => ?_) (fun h => ?_) | with_reducible refine Guard_ndec (fun h => ?_) (fun h => ?_) | with_reducible refine Guard_not (fun h => ?_) (fun h => ?_) | with_reducible refine IfB_ndec (fun h => ?_) (fun h => ?_) | with_reducible refine IfB_not (fun h => ?_) (fun h => ?_) | with_reducible refine Guard_split (fun h => ?_) (fun h => ?_) | with_reducible refine IfB_split (fun h => ?_) (fun h => ?_))
        all_goals first | exact hK _ _ rfl | trace_state
      · clear hof
        unfold Cmd.av at cp bp sm xp
        repeat' (first | simp only [go_sem, Nat.reduceLT, Nat.reduceEqDiff, Nat.reduceAdd, Nat.reduceMul, Nat.reduceSub, Nat.reduceLeDiff, Int.reduceToNat, Int.reduceNeg, Int.reduceLT, Int.reduceLE, Int.reduceEq, reduceCtorEq, Int.natCast_zero, Int.natCast_one, Int.cast_ofNat_Int, Bool.not_not, false_eq_decide, true_eq_decide, hread0, hreadk, read_cons0, read_consk, astore_h0, astore_hk, hget0, hgetk, hset0, hsetk, hlen, hcat, Nat.add_assoc, Nat.add_zero, Nat.zero_add, List.length_append, and_true, true_and, AV.flat, *, -hK, -cp, -op, -bp, -sm, -xp] | refine WC.call (cp _) ?_ | refine WC.call (bp _) ?_ | refine WC.call (sm _) ?_ | refine WC.call (xp _) ?_ | with_reducible refine IfB_dec (fun h => ?_) (fun h => ?_) | with_reducible refine Guard_dec (fun h => ?_) (fun h => ?_) | with_reducible refine Guard_ndec (fun h => ?_) (fun h => ?_) | with_reducible refine Guard_not (fun h => ?_) (fun h => ?_) | with_reducible refine IfB_ndec (fun h => ?_) (fun h => ?_) | with_reducible refine IfB_not (fun h => ?_) (fun h => ?_) | with_reducible refine Guard_split (fun h => ?_) (fun h => ?_) | with_reducible refine IfB_split (fun h => ?_) (fun h => ?_))
        all_goals first | exact hK _ _ rfl | trace_state
    · obtain rfl := hg8 g0
      clear hx0 hg8
      rcases e0 with rfl | e0
      · have := hof rfl
        rw [this] at op
        simp only at op
        clear hof this
        unfold Cmd.av at cp op bp sm
        repeat' (first | simp only [go_sem, Nat.reduceLT, Nat.reduceEqDiff, Nat.reduceAdd, Nat.reduceMul, Nat.reduceSub, Nat.reduceLeDiff, Int.reduceToNat, Int.reduceNeg, Int.reduceLT, Int.reduceLE, Int.reduceEq, reduceCtorEq, Int.natCast_zero, Int.natCast_one, Int.cast_ofNat_Int, Bool.not_not, false_eq_decide, true_eq_decide, hread0, hreadk, read_cons0, read_consk, astore_h0, astore_hk, hget0, hgetk, hset0, hsetk, hlen, hcat, Nat.add_assoc, Nat.add_zero, Nat.zero_add, List.length_append, and_true, true_and, AV.flat, *, -hK, -cp, -op, -bp, -sm, -xp] | refine WC.call (cp _) ?_ | refine WC.call (op _) ?_ | refine WC.call (bp _) ?_ | refine WC.call (sm _) ?_ | with_reducible refine IfB_dec (fun h => ?_) (fun h => ?_) | with_reducible refine Guard_dec (fun h => ?_) (fun h => ?_) | with_reducible refine Guard_ndec (fun h => ?_) (fun h => ?_) | with_reducible refine Guard_not (fun h => ?_) (fun h => ?_) | with_reducible refine IfB_ndec (fun h => ?_) (fun h => ?_) | with_reducible refine IfB_not (fun h => ?_) (fun h => ?_) | with_reducible refine Guard_split (fun h => ?_) (fun h => ?_) | with_reducible refine IfB_split (fun h => ?_) (fun h => ?_))
        all_goals first | exact hK _ _ rfl | trace_state
      · clear hof
        unfold Cmd.av at cp bp sm
        repeat' (first | simp only [go_sem, Nat.reduceLT, Nat.reduceEqDiff, Nat.reduceAdd, Nat.reduceMul, Nat.reduceSub, Nat.reduceLeDiff, Int.reduceToNat, Int.reduceNeg, Int.reduceLT, Int.reduceLE, Int.reduceEq, reduceCtorEq, Int.natCast_zero, Int.natCast_one, Int.cast_ofNat_Int, Bool.not_not, false_eq_decide, true_eq_decide, hread0, hreadk, read_cons0, read_consk, astore_h0, astore_hk, hget0, hgetk, hset0, hsetk, hlen, hcat, Nat.add_assoc, Nat.add_zero, Nat.zero_add, List.length_append, and_true, true_and, AV.flat, *, -hK, -cp, -op, -bp, -sm, -xp] | refine WC.call (cp _) ?_ | refine WC.call (bp _) ?_ | refine WC.call (sm _) ?_ | with_reducible refine IfB_dec (fun h => ?_) (fun h => ?_) | with_reducible refine Guard_dec (fun h => ?_) (fun h => ?_) | with_reducible refine Guard_ndec (fun h => ?_) (fun h => ?_) | with_reducible refine Guard_not (fun h => ?_) (fun h => ?_) | with_reducible refine IfB_ndec (fun h => ?_) (fun h => ?_) | with_reducible refine IfB_not (fun h => ?_) (fun h => ?_) | with_reducible refine Guard_split (fun h => ?_) (fun h => ?_) | with_reducible refine IfB_split (fun h => ?_) (fun h => ?_))
        all_goals first | exact hK _ _ rfl | trace_state
end Go.Proofs.Ytakmlfbejbelaaa
