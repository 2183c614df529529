import Derived.Test.YtccfhighlpfdmaaTrkC2
import Derived.Test.YtccfhighlpfdmaaTrkW
import Derived.Test.YtccfhighlpfdmaaTrackV
set_option linter.unusedSimpArgs false
set_option linter.unusedVariables false
set_option maxRecDepth 100000
set_option maxHeartbeats 4000000
namespace Go.Proofs.Ytccfhighlpfdmaa
open Go Go.Proofs Go.Proofs.PI
theorem hsum_part (cs : List Chg) (l : List Tk) (c : Nat) : hsum cs (l.take c) ≤ hsum cs l := by
  have : hsum cs l = hsum cs (l.take c) + hsum cs (l.drop c) := by
    unfold hsum; rw [← List.sum_append, ← List.map_append, List.take_append_drop]
  omega
theorem trackChange_walk (avs : List AV) (h : InpPAll T 9 [24, 25] avs) : WC Try.prog 3 avs [] fun v _ => v = .bool true := by
  obtain ⟨a0, _, rfl, h0, h⟩ := h.cons
  obtain ⟨a1, _, rfl, h1, h⟩ := h.cons
  obtain rfl := h.nil
  obtain ⟨l, rfl, hl, hf⟩ := inp_track h0
  obtain ⟨cs, rfl, hok, hcn⟩ := inp_changes h1
  clear h0 h1 h
  generalize ([] : Heap) = H
  refine WC_of_K fun K hK => ?_
  have gr := fun J => great_spec l hl hf J
  have hv := fun J => heavyC_spec cs hcn J
  have ck := fun J => trCheck_spec l hl (fun t ht => (hf t ht).1) J
  have cg := fun J => change_spec l cs hl (fun t ht => (hf t ht).1) hcn hok J
  unfold trAv at *
  refine WC_of_body hT Try.func3 rfl (by simp [Try.f3]) (by simp [Try.f3]) (wx_sound hT _ ?_)
  simp only [Try.f3]
  repeat' (first | simp only [go_sem, Nat.reduceLT, Nat.reduceEqDiff, Nat.reduceAdd, Nat.reduceMul, Nat.reduceSub, Nat.reduceLeDiff, Int.reduceToNat, Int.reduceNeg, Int.reduceLT, Int.reduceLE, Int.reduceEq, reduceCtorEq, Int.natCast_zero, Int.natCast_one, Int.cast_ofNat_Int, Bool.not_not, false_eq_decide, true_eq_decide, hread0, hreadk, read_cons0, read_consk, astore_h0, astore_hk, hget0, hgetk, hset0, hsetk, hlen, hcat, Nat.add_assoc, Nat.add_zero, Nat.zero_add, List.length_append, and_true, true_and, AV.flat, *, -hK, -gr, -ck, -cg, -hf, -hok, -hv] | refine WC.call (alive_spec _) ?_ | with_reducible refine IfB_dec (fun h => ?_) (fun h => ?_) | with_reducible refine Guard_dec (fun h => ?_) (fun h => ?_) | with_reducible refine Guard_ndec (fun h => ?_) (fun h => ?_) | with_reducible refine Guard_not (fun h => ?_) (fun h => ?_) | with_reducible refine IfB_ndec (fun h => ?_) (fun h => ?_) | with_reducible refine IfB_not (fun h => ?_) (fun h => ?_) | with_reducible refine Guard_split (fun h => ?_) (fun h => ?_) | with_reducible refine IfB_split (fun h => ?_) (fun h => ?_))
  refine (gr _).mono ?_
  rintro r1 H1 ⟨⟨bl, rfl, hbl⟩, rfl⟩
  cases bl with
  | true =>
    repeat' (first | simp only [go_sem, Nat.reduceLT, Nat.reduceEqDiff, Nat.reduceAdd, Nat.reduceMul, Nat.reduceSub, Nat.reduceLeDiff, Int.reduceToNat, Int.reduceNeg, Int.reduceLT, Int.reduceLE, Int.reduceEq, reduceCtorEq, Int.natCast_zero, Int.natCast_one, Int.cast_ofNat_Int, Bool.not_not, false_eq_decide, true_eq_decide, hread0, hreadk, read_cons0, read_consk, astore_h0, astore_hk, hget0, hgetk, hset0, hsetk, hlen, hcat, Nat.add_assoc, Nat.add_zero, Nat.zero_add, List.length_append, and_true, true_and, AV.flat, *, -hK, -ck, -cg, -hf, -hok, -hv] | with_reducible refine IfB_dec (fun h => ?_) (fun h => ?_) | with_reducible refine Guard_dec (fun h => ?_) (fun h => ?_) | with_reducible refine Guard_ndec (fun h => ?_) (fun h => ?_) | with_reducible refine Guard_not (fun h => ?_) (fun h => ?_) | with_reducible refine IfB_ndec (fun h => ?_) (fun h => ?_) | with_reducible refine IfB_not (fun h => ?_) (fun h => ?_) | with_reducible refine Guard_split (fun h => ?_) (fun h => ?_) | with_reducible refine IfB_split (fun h => ?_) (fun h => ?_))
    exact hK _ _ rfl
  | false =>
  clear hbl gr
  repeat' (first | simp only [go_sem, Nat.reduceLT, Nat.reduceEqDiff, Nat.reduceAdd, Nat.reduceMul, Nat.reduceSub, Nat.reduceLeDiff, Int.reduceToNat, Int.reduceNeg, Int.reduceLT, Int.reduceLE, Int.reduceEq, reduceCtorEq, Int.natCast_zero, Int.natCast_one, Int.cast_ofNat_Int, Bool.not_not, false_eq_decide, true_eq_decide, hread0, hreadk, read_cons0, read_consk, astore_h0, astore_hk, hget0, hgetk, hset0, hsetk, hlen, hcat, Nat.add_assoc, Nat.add_zero, Nat.zero_add, List.length_append, and_true, true_and, AV.flat, *, -hK, -ck, -cg, -hf, -hok, -hv] | with_reducible refine IfB_dec (fun h => ?_) (fun h => ?_) | with_reducible refine Guard_dec (fun h => ?_) (fun h => ?_) | with_reducible refine Guard_ndec (fun h => ?_) (fun h => ?_) | with_reducible refine Guard_not (fun h => ?_) (fun h => ?_) | with_reducible refine IfB_ndec (fun h => ?_) (fun h => ?_) | with_reducible refine IfB_not (fun h => ?_) (fun h => ?_) | with_reducible refine Guard_split (fun h => ?_) (fun h => ?_) | with_reducible refine IfB_split (fun h => ?_) (fun h => ?_))
  refine (hv _).mono ?_
  rintro r1 H1 ⟨⟨bl, rfl, hbl⟩, rfl⟩
  cases bl with
  | true =>
    repeat' (first | simp only [go_sem, Nat.reduceLT, Nat.reduceEqDiff, Nat.reduceAdd, Nat.reduceMul, Nat.reduceSub, Nat.reduceLeDiff, Int.reduceToNat, Int.reduceNeg, Int.reduceLT, Int.reduceLE, Int.reduceEq, reduceCtorEq, Int.natCast_zero, Int.natCast_one, Int.cast_ofNat_Int, Bool.not_not, false_eq_decide, true_eq_decide, hread0, hreadk, read_cons0, read_consk, astore_h0, astore_hk, hget0, hgetk, hset0, hsetk, hlen, hcat, Nat.add_assoc, Nat.add_zero, Nat.zero_add, List.length_append, and_true, true_and, AV.flat, *, -hK, -ck, -cg, -hf, -hok] | with_reducible refine IfB_dec (fun h => ?_) (fun h => ?_) | with_reducible refine Guard_dec (fun h => ?_) (fun h => ?_) | with_reducible refine Guard_ndec (fun h => ?_) (fun h => ?_) | with_reducible refine Guard_not (fun h => ?_) (fun h => ?_) | with_reducible refine IfB_ndec (fun h => ?_) (fun h => ?_) | with_reducible refine IfB_not (fun h => ?_) (fun h => ?_) | with_reducible refine Guard_split (fun h => ?_) (fun h => ?_) | with_reducible refine IfB_split (fun h => ?_) (fun h => ?_))
    exact hK _ _ rfl
  | false =>
  clear hbl hv
  by_cases i1 : (cs.length : Int) > 500
  · skip
    repeat' (first | simp only [go_sem, Nat.reduceLT, Nat.reduceEqDiff, Nat.reduceAdd, Nat.reduceMul, Nat.reduceSub, Nat.reduceLeDiff, Int.reduceToNat, Int.reduceNeg, Int.reduceLT, Int.reduceLE, Int.reduceEq, reduceCtorEq, Int.natCast_zero, Int.natCast_one, Int.cast_ofNat_Int, Bool.not_not, false_eq_decide, true_eq_decide, hread0, hreadk, read_cons0, read_consk, astore_h0, astore_hk, hget0, hgetk, hset0, hsetk, hlen, hcat, Nat.add_assoc, Nat.add_zero, Nat.zero_add, List.length_append, and_true, true_and, AV.flat, *, -hK, -ck, -cg, -hf, -hok] | with_reducible refine IfB_dec (fun h => ?_) (fun h => ?_) | with_reducible refine Guard_dec (fun h => ?_) (fun h => ?_) | with_reducible refine Guard_ndec (fun h => ?_) (fun h => ?_) | with_reducible refine Guard_not (fun h => ?_) (fun h => ?_) | with_reducible refine IfB_ndec (fun h => ?_) (fun h => ?_) | with_reducible refine IfB_not (fun h => ?_) (fun h => ?_) | with_reducible refine Guard_split (fun h => ?_) (fun h => ?_) | with_reducible refine IfB_split (fun h => ?_) (fun h => ?_))
    exact hK _ _ rfl
  by_cases hm : trMay l
  rotate_left
  · rw [trE_bad hm] at ck
    repeat' (first | simp only [go_sem, Nat.reduceLT, Nat.reduceEqDiff, Nat.reduceAdd, Nat.reduceMul, Nat.reduceSub, Nat.reduceLeDiff, Int.reduceToNat, Int.reduceNeg, Int.reduceLT, Int.reduceLE, Int.reduceEq, reduceCtorEq, Int.natCast_zero, Int.natCast_one, Int.cast_ofNat_Int, Bool.not_not, false_eq_decide, true_eq_decide, hread0, hreadk, read_cons0, read_consk, astore_h0, astore_hk, hget0, hgetk, hset0, hsetk, hlen, hcat, Nat.add_assoc, Nat.add_zero, Nat.zero_add, List.length_append, and_true, true_and, AV.flat, *, -hK, -ck, -cg, -hf, -hok, -hm] | refine WC.call (ck _) ?_ | with_reducible refine IfB_dec (fun h => ?_) (fun h => ?_) | with_reducible refine Guard_dec (fun h => ?_) (fun h => ?_) | with_reducible refine Guard_ndec (fun h => ?_) (fun h => ?_) | with_reducible refine Guard_not (fun h => ?_) (fun h => ?_) | with_reducible refine IfB_ndec (fun h => ?_) (fun h => ?_) | with_reducible refine IfB_not (fun h => ?_) (fun h => ?_) | with_reducible refine Guard_split (fun h => ?_) (fun h => ?_) | with_reducible refine IfB_split (fun h => ?_) (fun h => ?_))
    exact hK _ _ rfl
  rw [trE_ok hm] at ck
  have hl8 := hm.2.1
  rcases trChg_cases l cs hm with ⟨e0, ex⟩ | ex
  · generalize trChg l cs = ce at *
    obtain ⟨x, e⟩ := ce
    simp only at e0 ex cg
    subst ex
    repeat' (first | simp only [go_sem, Nat.reduceLT, Nat.reduceEqDiff, Nat.reduceAdd, Nat.reduceMul, Nat.reduceSub, Nat.reduceLeDiff, Int.reduceToNat, Int.reduceNeg, Int.reduceLT, Int.reduceLE, Int.reduceEq, reduceCtorEq, Int.natCast_zero, Int.natCast_one, Int.cast_ofNat_Int, Bool.not_not, false_eq_decide, true_eq_decide, hread0, hreadk, read_cons0, read_consk, astore_h0, astore_hk, hget0, hgetk, hset0, hsetk, hlen, hcat, Nat.add_assoc, Nat.add_zero, Nat.zero_add, List.length_append, and_true, true_and, AV.flat, *, -hK, -ck, -cg, -hf, -hok, -hm] | refine WC.call (ck _) ?_ | refine WC.call (cg _) ?_ | with_reducible refine IfB_dec (fun h => ?_) (fun h => ?_) | with_reducible refine Guard_dec (fun h => ?_) (fun h => ?_) | with_reducible refine Guard_ndec (fun h => ?_) (fun h => ?_) | with_reducible refine Guard_not (fun h => ?_) (fun h => ?_) | with_reducible refine IfB_ndec (fun h => ?_) (fun h => ?_) | with_reducible refine IfB_not (fun h => ?_) (fun h => ?_) | with_reducible refine Guard_split (fun h => ?_) (fun h => ?_) | with_reducible refine IfB_split (fun h => ?_) (fun h => ?_))
    exact hK _ _ rfl
  rw [ex] at cg
  simp only at cg
  have hXm := finL_may hm cs
  have hXl : (finL l cs).length = l.length := List.length_map _
  have ckX := fun J => trCheck_spec (finL l cs) (by omega) (fun t ht => by have := (hXm.2.2 t ht).1.2; omega) J
  rw [trE_ok hXm] at ckX
  have hXc : ∀ c (h : c < l.length) (h2 : c < (finL l cs).length), (finL l cs)[c] = ⟨l[c].on, l[c].ns.filter fun n => !hitB cs n⟩ := fun c h h2 => by simp only [finL, List.getElem_map]
  have hcnt := fun (n : Nm) (c : Nat) (hc : c < l.length) => runS_count n c cs l [] (fun t ht => (hm.2.2 t ht).2.2) hc
  have hall := hsum_all cs l
  have hpl := runS_plen hm cs
  generalize (runS (l, []) cs).2 = P at *
  generalize finL l cs = X at *
  clear ex
  unfold trAv at ckX
  have i4 : (X.length : Int) = l.length := by omega
  repeat' (first | simp only [go_sem, Nat.reduceLT, Nat.reduceEqDiff, Nat.reduceAdd, Nat.reduceMul, Nat.reduceSub, Nat.reduceLeDiff, Int.reduceToNat, Int.reduceNeg, Int.reduceLT, Int.reduceLE, Int.reduceEq, reduceCtorEq, Int.natCast_zero, Int.natCast_one, Int.cast_ofNat_Int, Bool.not_not, false_eq_decide, true_eq_decide, hread0, hreadk, read_cons0, read_consk, astore_h0, astore_hk, hget0, hgetk, hset0, hsetk, hlen, hcat, Nat.add_assoc, Nat.add_zero, Nat.zero_add, List.length_append, and_true, true_and, AV.flat, *, -hK, -ck, -cg, -hf, -hok, -hm, -ckX, -hXm, -hXc, -hcnt, -hall, -hpl, -hXl] | refine WC.call (ck _) ?_ | refine WC.call (cg _) ?_ | with_reducible refine IfB_dec (fun h => ?_) (fun h => ?_) | with_reducible refine Guard_dec (fun h => ?_) (fun h => ?_) | with_reducible refine Guard_ndec (fun h => ?_) (fun h => ?_) | with_reducible refine Guard_not (fun h => ?_) (fun h => ?_) | with_reducible refine IfB_ndec (fun h => ?_) (fun h => ?_) | with_reducible refine IfB_not (fun h => ?_) (fun h => ?_) | with_reducible refine Guard_split (fun h => ?_) (fun h => ?_) | with_reducible refine IfB_split (fun h => ?_) (fun h => ?_))
  generalize hG : (H ++ [(⟨[tkE.lst l], 0, .full⟩ : Blk), (⟨[tkE.lst X], 0, .full⟩ : Blk)] : Heap) = G
  have g0 : G[H.length]? = some (⟨[tkE.lst l], 0, .full⟩ : Blk) := by rw [← hG, hget0]; rfl
  have g1 : G[H.length + 1]? = some (⟨[tkE.lst X], 0, .full⟩ : Blk) := by rw [← hG, hgetk]; rfl
  clear hG
  repeat' (first | simp only [go_sem, Nat.reduceLT, Nat.reduceEqDiff, Nat.reduceAdd, Nat.reduceMul, Nat.reduceSub, Nat.reduceLeDiff, Int.reduceToNat, Int.reduceNeg, Int.reduceLT, Int.reduceLE, Int.reduceEq, reduceCtorEq, Int.natCast_zero, Int.natCast_one, Int.cast_ofNat_Int, Bool.not_not, false_eq_decide, true_eq_decide, hread0, hreadk, read_cons0, read_consk, astore_h0, astore_hk, hget0, hgetk, hset0, hsetk, hlen, hcat, Nat.add_assoc, Nat.add_zero, Nat.zero_add, List.length_append, and_true, true_and, AV.flat, g0, get_app g0, read_get g0, read_app g0, g1, get_app g1, read_get g1, read_app g1, *, -hK, -ck, -cg, -hf, -hok, -hm, -ckX, -hXm, -hXc, -hcnt, -hall, -hpl, -hXl] | refine WC.call (ckX _) ?_ | with_reducible refine IfB_dec (fun h => ?_) (fun h => ?_) | with_reducible refine Guard_dec (fun h => ?_) (fun h => ?_) | with_reducible refine Guard_ndec (fun h => ?_) (fun h => ?_) | with_reducible refine Guard_not (fun h => ?_) (fun h => ?_) | with_reducible refine IfB_ndec (fun h => ?_) (fun h => ?_) | with_reducible refine IfB_not (fun h => ?_) (fun h => ?_) | with_reducible refine Guard_split (fun h => ?_) (fun h => ?_) | with_reducible refine IfB_split (fun h => ?_) (fun h => ?_))
  clear ck cg ckX hXm hok hf
  refine WX_loopS [1, 2, 5, 6, 7] (fun k fr' J => ∃ c : Nat, k = l.length - c ∧ c ≤ l.length ∧ fr'.get 10 = .int .i64 c ∧ fr'.get 9 = .int .i64 (hsum cs (l.take c) : Nat) ∧ Keep none G J) l.length ⟨0, rfl, by omega, by simp only [go_sem, Nat.reduceLT, Nat.reduceEqDiff, Nat.reduceAdd, Nat.reduceMul, Nat.reduceSub, Nat.reduceLeDiff, Int.reduceToNat, Int.reduceNeg, Int.reduceLT, Int.reduceLE, Int.reduceEq, reduceCtorEq]; rfl, by simp only [go_sem, Nat.reduceLT, Nat.reduceEqDiff, Nat.reduceAdd, Nat.reduceMul, Nat.reduceSub, Nat.reduceLeDiff, Int.reduceToNat, Int.reduceNeg, Int.reduceLT, Int.reduceLE, Int.reduceEq, reduceCtorEq]; rfl, Keep.refl _ _⟩ ?_
  rintro k fr' J A R hA hs hg hR ⟨c, rfl, hci, f10, f9, kJ⟩
  have s1 := hg 1 (by decide)
  have s2 := hg 2 (by decide)
  have s5 := hg 5 (by decide)
  have s6 := hg 6 (by decide)
  have s7 := hg 7 (by decide)
  simp only [Fr.get_put, Fr.get_init, List.getD_cons_zero, List.getD_cons_succ, Nat.reduceEqDiff, if_true, if_false] at s1 s2 s5 s6 s7
  refine wx_sound hT _ ?_
  have gJ0 := kJ.get g0 (by simp)
  have gJ1 := kJ.get g1 (by simp)
  by_cases hlt : c < l.length
  rotate_left
  · have i5 : ¬ (c : Int) < l.length := by omega
    have hce : c = l.length := by omega
    rw [hce, List.take_length, hall] at f9
    repeat' (first | simp only [go_sem, Nat.reduceLT, Nat.reduceEqDiff, Nat.reduceAdd, Nat.reduceMul, Nat.reduceSub, Nat.reduceLeDiff, Int.reduceToNat, Int.reduceNeg, Int.reduceLT, Int.reduceLE, Int.reduceEq, reduceCtorEq, Int.natCast_zero, Int.natCast_one, Int.cast_ofNat_Int, Bool.not_not, false_eq_decide, true_eq_decide, hread0, hreadk, read_cons0, read_consk, astore_h0, astore_hk, hget0, hgetk, hset0, hsetk, hlen, hcat, Nat.add_assoc, Nat.add_zero, Nat.zero_add, List.length_append, and_true, true_and, AV.flat, gJ0, get_app gJ0, read_get gJ0, read_app gJ0, gJ1, get_app gJ1, read_get gJ1, read_app gJ1, *, -hK, -hm, -hXc, -hcnt, -hall, -hpl, -hXl, -kJ, -hce] | with_reducible refine IfB_dec (fun h => ?_) (fun h => ?_) | with_reducible refine Guard_dec (fun h => ?_) (fun h => ?_) | with_reducible refine Guard_ndec (fun h => ?_) (fun h => ?_) | with_reducible refine Guard_not (fun h => ?_) (fun h => ?_) | with_reducible refine IfB_ndec (fun h => ?_) (fun h => ?_) | with_reducible refine IfB_not (fun h => ?_) (fun h => ?_) | with_reducible refine Guard_split (fun h => ?_) (fun h => ?_) | with_reducible refine IfB_split (fun h => ?_) (fun h => ?_))
    exact hK _ _ rfl
  have i5 : (c : Int) < l.length := by omega
  have e3 := inc_id hlt hl
  have hltX : c < X.length := by omega
  have e1 := at_enc (E := tkE) (T := T) (k := .i64) se22 hlt rfl
  have e2 := at_enc (E := tkE) (T := T) (k := .i64) se22 hltX rfl
  rw [hXc c hlt hltX] at e2
  rw [tkE_cells] at e1 e2
  simp only at e2
  have hmt := hm.2.2 _ (List.getElem_mem hlt)
  have hn16 := hmt.1.2
  have hcn := fun n => hcnt n c hlt
  have hst := hsum_step (cs := cs) hlt
  have hsle : hsum cs (l.take c) ≤ 128 := by have := hsum_part cs l c; omega
  have back : ∀ fr2 J2, A fr2 → fr2.get 10 = .int .i64 ((c + 1 : Nat) : Int) → fr2.get 9 = .int .i64 ((hsum cs (l.take c) + l[c].ns.countP (hitB cs) : Nat) : Int) → Keep none G J2 → R fr2 J2 := fun fr2 J2 ha q1 q2 q3 => hR fr2 J2 ha (l.length - (c + 1)) (by omega) ⟨c + 1, rfl, by omega, q1, by rw [hst]; exact q2, q3⟩
  clear hR hst hcnt hXc hall
  generalize hsum cs (l.take c) = M at *
  generalize l[c] = t at *
  obtain ⟨ton, ns⟩ := t
  simp only at e1 e2 hn16 hcn back
  have hnd := hmt.2.2
  clear hmt hm
  have u0 : IntKind.i64.wrap (0 : Int) = 0 := rfl
  repeat' (first | simp only [go_sem, Nat.reduceLT, Nat.reduceEqDiff, Nat.reduceAdd, Nat.reduceMul, Nat.reduceSub, Nat.reduceLeDiff, Int.reduceToNat, Int.reduceNeg, Int.reduceLT, Int.reduceLE, Int.reduceEq, reduceCtorEq, Int.natCast_zero, Int.natCast_one, Int.cast_ofNat_Int, Bool.not_not, false_eq_decide, true_eq_decide, hread0, hreadk, read_cons0, read_consk, astore_h0, astore_hk, hget0, hgetk, hset0, hsetk, hlen, hcat, Nat.add_assoc, Nat.add_zero, Nat.zero_add, List.length_append, and_true, true_and, AV.flat, gJ0, get_app gJ0, read_get gJ0, read_app gJ0, gJ1, get_app gJ1, read_get gJ1, read_app gJ1, *, -hK, -hcn, -hpl, -hXl, -kJ, -back, -hsle, -hn16, -hnd] | with_reducible refine IfB_dec (fun h => ?_) (fun h => ?_) | with_reducible refine Guard_dec (fun h => ?_) (fun h => ?_) | with_reducible refine Guard_ndec (fun h => ?_) (fun h => ?_) | with_reducible refine Guard_not (fun h => ?_) (fun h => ?_) | with_reducible refine IfB_ndec (fun h => ?_) (fun h => ?_) | with_reducible refine IfB_not (fun h => ?_) (fun h => ?_) | with_reducible refine Guard_split (fun h => ?_) (fun h => ?_) | with_reducible refine IfB_split (fun h => ?_) (fun h => ?_))
  have o1 := s1
  have o2 := s2
  have o5 := s5
  have o6 := s6
  have o7 := s7
  have hA0 := hA
  refine WX_loopS [1, 2, 5, 6, 7, 10] (fun k fr' J2 => ∃ (i : Nat) (v : AV), k = ns.length - i ∧ i ≤ ns.length ∧ fr'.get 12 = .int .i64 i ∧ fr'.get 9 = .int .i64 ((M + (ns.take i).countP (hitB cs) : Nat) : Int) ∧ fr'.get 11 = v ∧ OwnE nmE J.length J2 v ((ns.take i).filter fun n => !hitB cs n) ∧ Keep none J J2 ∧ A fr') ns.length ⟨0, .nils, rfl, by omega, by simp only [go_sem, Nat.reduceLT, Nat.reduceEqDiff, Nat.reduceAdd, Nat.reduceMul, Nat.reduceSub, Nat.reduceLeDiff, Int.reduceToNat, Int.reduceNeg, Int.reduceLT, Int.reduceLE, Int.reduceEq, reduceCtorEq]; rfl, by simp only [go_sem, Nat.reduceLT, Nat.reduceEqDiff, Nat.reduceAdd, Nat.reduceMul, Nat.reduceSub, Nat.reduceLeDiff, Int.reduceToNat, Int.reduceNeg, Int.reduceLT, Int.reduceLE, Int.reduceEq, reduceCtorEq, f9]; simp, by simp only [go_sem, Nat.reduceLT, Nat.reduceEqDiff, Nat.reduceAdd, Nat.reduceMul, Nat.reduceSub, Nat.reduceLeDiff, Int.reduceToNat, Int.reduceNeg, Int.reduceLT, Int.reduceLE, Int.reduceEq, reduceCtorEq], OwnE.nils _ _ _, Keep.refl _ _, by (repeat (first | exact hs | refine hA _ _ _ (by decide) ?_))⟩ ?_
  clear hg hs hA s1 s2 s5 s6 s7
  rintro k fr' J2 A2 R2 hA hs hg hR2 ⟨i, v, rfl, hin, f12, f9, f11, ov, kJ2, hAf⟩
  have s1 := hg 1 (by decide)
  have s2 := hg 2 (by decide)
  have s5 := hg 5 (by decide)
  have s6 := hg 6 (by decide)
  have s7 := hg 7 (by decide)
  have s10 := hg 10 (by decide)
  simp only [Fr.get_put, Fr.get_init, List.getD_cons_zero, List.getD_cons_succ, Nat.reduceEqDiff, if_true, if_false] at s1 s2 s5 s6 s7 s10
  rw [o1] at s1
  rw [o2] at s2
  rw [o5] at s5
  rw [o6] at s6
  rw [o7] at s7
  rw [f10] at s10
  clear o1 o2 o5 o6 o7 f10
  have hv := ov.one
  have q0 := kJ2.get gJ0 (by simp)
  have q1 := kJ2.get gJ1 (by simp)
  refine wx_sound hT _ ?_
  by_cases hli : i < ns.length
  rotate_left
  · have i6 : ¬ (i : Int) < ns.length := by omega
    have hie : i = ns.length := by omega
    rw [hie, List.take_length] at f9 ov
    have sn := WC_lend_val (args := [v, nmE.lst (ns.filter fun n => !hitB cs n)]) (args' := [nmE.lst (ns.filter fun n => !hitB cs n), nmE.lst (ns.filter fun n => !hitB cs n)]) ⟨(ov.thaw (by decide)).mono (Nat.zero_le _), .atom _ rfl, trivial⟩ (.cell _ rfl) (fun J => sameNames_refl (ns.filter fun n => !hitB cs n) (by have := List.length_filter_le (fun n => !hitB cs n) ns; omega) J) (H := J2)
    repeat' (first | simp only [go_sem, Nat.reduceLT, Nat.reduceEqDiff, Nat.reduceAdd, Nat.reduceMul, Nat.reduceSub, Nat.reduceLeDiff, Int.reduceToNat, Int.reduceNeg, Int.reduceLT, Int.reduceLE, Int.reduceEq, reduceCtorEq, Int.natCast_zero, Int.natCast_one, Int.cast_ofNat_Int, Bool.not_not, false_eq_decide, true_eq_decide, hread0, hreadk, read_cons0, read_consk, astore_h0, astore_hk, hget0, hgetk, hset0, hsetk, hlen, hcat, Nat.add_assoc, Nat.add_zero, Nat.zero_add, List.length_append, and_true, true_and, AV.flat, q0, get_app q0, read_get q0, read_app q0, q1, get_app q1, read_get q1, read_app q1, hv, one_solid hv, one_cells hv, *, -hK, -hcn, -hpl, -hXl, -kJ, -back, -hsle, -hn16, -hnd, -ov, -kJ2, -hie, -sn] | with_reducible refine IfB_dec (fun h => ?_) (fun h => ?_) | with_reducible refine Guard_dec (fun h => ?_) (fun h => ?_) | with_reducible refine Guard_ndec (fun h => ?_) (fun h => ?_) | with_reducible refine Guard_not (fun h => ?_) (fun h => ?_) | with_reducible refine IfB_ndec (fun h => ?_) (fun h => ?_) | with_reducible refine IfB_not (fun h => ?_) (fun h => ?_) | with_reducible refine Guard_split (fun h => ?_) (fun h => ?_) | with_reducible refine IfB_split (fun h => ?_) (fun h => ?_))
    refine WX_rows hT hmix [(0, none), (1, none), (2, none), (3, none), (4, none), (5, none), (6, none), (7, some [true, true, true, true, true, true, true]), (8, none), (9, none), (10, none), (11, none), (12, none), (13, none), (14, none), (15, none), (16, none), (17, none), (18, none), (19, none), (20, none), (21, none), (22, none), (23, none)] (by kernel_rfl) ?_
    repeat' (first | simp only [go_sem, Nat.reduceLT, Nat.reduceEqDiff, Nat.reduceAdd, Nat.reduceMul, Nat.reduceSub, Nat.reduceLeDiff, Int.reduceToNat, Int.reduceNeg, Int.reduceLT, Int.reduceLE, Int.reduceEq, reduceCtorEq, Int.natCast_zero, Int.natCast_one, Int.cast_ofNat_Int, Bool.not_not, false_eq_decide, true_eq_decide, hread0, hreadk, read_cons0, read_consk, astore_h0, astore_hk, hget0, hgetk, hset0, hsetk, hlen, hcat, Nat.add_assoc, Nat.add_zero, Nat.zero_add, List.length_append, and_true, true_and, AV.flat, q0, get_app q0, read_get q0, read_app q0, q1, get_app q1, read_get q1, read_app q1, hv, one_solid hv, one_cells hv, *, -hK, -hcn, -hpl, -hXl, -kJ, -back, -hsle, -hn16, -hnd, -ov, -kJ2, -hie, -sn] | refine WC.call (sn) ?_ | with_reducible refine IfB_dec (fun h => ?_) (fun h => ?_) | with_reducible refine Guard_dec (fun h => ?_) (fun h => ?_) | with_reducible refine Guard_ndec (fun h => ?_) (fun h => ?_) | with_reducible refine Guard_not (fun h => ?_) (fun h => ?_) | with_reducible refine IfB_ndec (fun h => ?_) (fun h => ?_) | with_reducible refine IfB_not (fun h => ?_) (fun h => ?_) | with_reducible refine Guard_split (fun h => ?_) (fun h => ?_) | with_reducible refine IfB_split (fun h => ?_) (fun h => ?_))
    exact back _ _ (by repeat (first | exact hAf | refine hA0 _ _ _ (by decide) ?_)) (by simp only [go_sem, Nat.reduceLT, Nat.reduceEqDiff, Nat.reduceAdd, Nat.reduceMul, Nat.reduceSub, Nat.reduceLeDiff, Int.reduceToNat, Int.reduceNeg, Int.reduceLT, Int.reduceLE, Int.reduceEq, reduceCtorEq]) (by simp only [go_sem, Nat.reduceLT, Nat.reduceEqDiff, Nat.reduceAdd, Nat.reduceMul, Nat.reduceSub, Nat.reduceLeDiff, Int.reduceToNat, Int.reduceNeg, Int.reduceLT, Int.reduceLE, Int.reduceEq, reduceCtorEq, f9]) (kJ.trans kJ2)
  have i6 : (i : Int) < ns.length := by omega
  have e6 := at_enc (E := nmE) (T := T) (k := .i64) se34 hli rfl
  rw [nmE_cells] at e6
  have e7 := inc_id hli (show ns.length ≤ 140737488355328 by omega)
  have hcp : (ns.take i).countP (hitB cs) ≤ 16 := by have := List.countP_le_length (p := hitB cs) (l := ns.take i); rw [List.length_take] at this; omega
  have hcs : (ns.take (i + 1)).countP (hitB cs) = (ns.take i).countP (hitB cs) + if hitB cs ns[i] = true then 1 else 0 := by
    rw [List.take_succ_eq_append_getElem hli, List.countP_append]; simp [List.countP_cons]
  have hfs : (ns.take (i + 1)).filter (fun n => !hitB cs n) = (ns.take i).filter (fun n => !hitB cs n) ++ if hitB cs ns[i] = true then [] else [ns[i]] := by
    rw [List.take_succ_eq_append_getElem hli, List.filter_append]; congr 1; cases hh : hitB cs ns[i] <;> simp [hh]
  have hcn1 := hcn ns[i]
  simp only [List.getElem_mem hli, true_and, List.countP_nil, Nat.zero_add] at hcn1
  have back2 : ∀ fr2 J3 v2, A2 fr2 → fr2.get 12 = .int .i64 ((i + 1 : Nat) : Int) → fr2.get 9 = .int .i64 ((M + (ns.take (i + 1)).countP (hitB cs) : Nat) : Int) → fr2.get 11 = v2 → OwnE nmE J.length J3 v2 ((ns.take (i + 1)).filter fun n => !hitB cs n) → Keep none J J3 → A fr2 → R2 fr2 J3 := fun fr2 J3 v2 ha j1 j2 j3 j4 j5 j6 => hR2 fr2 J3 ha (ns.length - (i + 1)) (by omega) ⟨i + 1, v2, rfl, by omega, j1, j2, j3, j4, j5, j6⟩
  rw [hcs, hfs] at back2
  clear hR2 back hcs hfs hcn hnd
  have hfl := List.length_filter_le (fun n => !hitB cs n) (ns.take i)
  rw [List.length_take] at hfl
  generalize (ns.take i).filter (fun n => !hitB cs n) = lf at *
  generalize (ns.take i).countP (hitB cs) = m at *
  generalize hn : ns[i] = n at *
  clear hn
  repeat' (first | simp only [go_sem, Nat.reduceLT, Nat.reduceEqDiff, Nat.reduceAdd, Nat.reduceMul, Nat.reduceSub, Nat.reduceLeDiff, Int.reduceToNat, Int.reduceNeg, Int.reduceLT, Int.reduceLE, Int.reduceEq, reduceCtorEq, Int.natCast_zero, Int.natCast_one, Int.cast_ofNat_Int, Bool.not_not, false_eq_decide, true_eq_decide, hread0, hreadk, read_cons0, read_consk, astore_h0, astore_hk, hget0, hgetk, hset0, hsetk, hlen, hcat, Nat.add_assoc, Nat.add_zero, Nat.zero_add, List.length_append, and_true, true_and, AV.flat, q0, get_app q0, read_get q0, read_app q0, q1, get_app q1, read_get q1, read_app q1, *, -hK, -hpl, -hXl, -kJ, -hsle, -hn16, -ov, -kJ2, -hcp, -hcn1, -back2, -hfl] | with_reducible refine IfB_dec (fun h => ?_) (fun h => ?_) | with_reducible refine Guard_dec (fun h => ?_) (fun h => ?_) | with_reducible refine Guard_ndec (fun h => ?_) (fun h => ?_) | with_reducible refine Guard_not (fun h => ?_) (fun h => ?_) | with_reducible refine IfB_ndec (fun h => ?_) (fun h => ?_) | with_reducible refine IfB_not (fun h => ?_) (fun h => ?_) | with_reducible refine Guard_split (fun h => ?_) (fun h => ?_) | with_reducible refine IfB_split (fun h => ?_) (fun h => ?_))
  have g2 : (J2 ++ [(⟨[.int .i64 n.ten, .str n.key], 0, .full⟩ : Blk)] : Heap)[J2.length]? = some ⟨[.int .i64 n.ten, .str n.key], 0, .full⟩ := by simp
  have ov3 := ov.keep0 (Keep.app none J2 [(⟨[.int .i64 n.ten, .str n.key], 0, .full⟩ : Blk)])
  have kJ3 := kJ2.trans (Keep.app none J2 [(⟨[.int .i64 n.ten, .str n.key], 0, .full⟩ : Blk)])
  generalize hbn : J2.length = bn at *
  generalize (J2 ++ [(⟨[.int .i64 n.ten, .str n.key], 0, .full⟩ : Blk)] : Heap) = J3 at *
  clear ov q0 q1 hbn kJ2
  have o1 := s1
  have o2 := s2
  have o5 := s5
  have o6 := s6
  have o7 := s7
  have o10 := s10
  have hB0 := hA
  refine WX_loopS [1, 2, 5, 6, 7, 9, 10, 11, 12, 13] (fun k fr' J4 => ∃ (k2 : Nat), k = cs.length - k2 ∧ k2 ≤ cs.length ∧ fr'.get 15 = .int .i64 k2 ∧ fr'.get 14 = .bool (hitB (cs.take k2) n) ∧ J4 = J3 ∧ A fr' ∧ A2 fr') cs.length ⟨0, rfl, by omega, by simp only [go_sem, Nat.reduceLT, Nat.reduceEqDiff, Nat.reduceAdd, Nat.reduceMul, Nat.reduceSub, Nat.reduceLeDiff, Int.reduceToNat, Int.reduceNeg, Int.reduceLT, Int.reduceLE, Int.reduceEq, reduceCtorEq]; rfl, by simp only [go_sem, Nat.reduceLT, Nat.reduceEqDiff, Nat.reduceAdd, Nat.reduceMul, Nat.reduceSub, Nat.reduceLeDiff, Int.reduceToNat, Int.reduceNeg, Int.reduceLT, Int.reduceLE, Int.reduceEq, reduceCtorEq]; rfl, rfl, by repeat (first | exact hAf | refine hA0 _ _ _ (by decide) ?_), by (repeat (first | exact hs | refine hA _ _ _ (by decide) ?_))⟩ ?_
  clear hg hs hA s1 s2 s5 s6 s7 s10
  rintro k fr' J4 A3 R3 hA hs hg hR3 ⟨k2, rfl, hk2, f15, f14, rfl, hAf3, hBf3⟩
  have s1 := hg 1 (by decide)
  have s2 := hg 2 (by decide)
  have s5 := hg 5 (by decide)
  have s6 := hg 6 (by decide)
  have s7 := hg 7 (by decide)
  have s9 := hg 9 (by decide)
  have s10 := hg 10 (by decide)
  have s11 := hg 11 (by decide)
  have s12 := hg 12 (by decide)
  have s13 := hg 13 (by decide)
  simp only [Fr.get_put, Fr.get_init, List.getD_cons_zero, List.getD_cons_succ, Nat.reduceEqDiff, if_true, if_false] at s1 s2 s5 s6 s7 s9 s10 s11 s12 s13
  rw [o1] at s1
  rw [o2] at s2
  rw [o5] at s5
  rw [o6] at s6
  rw [o7] at s7
  rw [o10] at s10
  rw [f9] at s9
  rw [f11] at s11
  rw [f12] at s12
  clear o1 o2 o5 o6 o7 o10 f9 f11 f12
  refine wx_sound hT _ ?_
  by_cases hlk : k2 < cs.length
  · have i7 : (k2 : Int) < cs.length := by omega
    have e8 := at_enc (E := chgE) (T := T) (k := .i64) se25 hlk rfl
    have e9 := inc_id hlk (show cs.length ≤ 140737488355328 by omega)
    have hst := hitB_step hlk n
    have tc := fun J => refTouches_spec cs[k2] n J
    have back3 : ∀ fr2 J5, A3 fr2 → fr2.get 15 = .int .i64 ((k2 + 1 : Nat) : Int) → fr2.get 14 = .bool (hitB (cs.take k2) n || tkHit cs[k2] n) → J5 = J4 → A fr2 → A2 fr2 → R3 fr2 J5 := fun fr2 J5 ha j1 j2 j3 j4 j5 => hR3 fr2 J5 ha (cs.length - (k2 + 1)) (by omega) ⟨k2 + 1, rfl, by omega, j1, by rw [hst]; exact j2, j3, j4, j5⟩
    clear hR3 hst back2
    rw [chgE_cells] at e8
    generalize tkHit cs[k2] n = hit at *
    generalize cs[k2] = ch at *
    unfold Chg.av Nm.av at tc
    cases hb : hitB (cs.take k2) n with
    | true =>
      rw [hb] at f14 back3
      rw [Bool.true_or] at back3
      repeat' (first | simp only [go_sem, Nat.reduceLT, Nat.reduceEqDiff, Nat.reduceAdd, Nat.reduceMul, Nat.reduceSub, Nat.reduceLeDiff, Int.reduceToNat, Int.reduceNeg, Int.reduceLT, Int.reduceLE, Int.reduceEq, reduceCtorEq, Int.natCast_zero, Int.natCast_one, Int.cast_ofNat_Int, Bool.not_not, false_eq_decide, true_eq_decide, hread0, hreadk, read_cons0, read_consk, astore_h0, astore_hk, hget0, hgetk, hset0, hsetk, hlen, hcat, Nat.add_assoc, Nat.add_zero, Nat.zero_add, List.length_append, and_true, true_and, AV.flat, g2, get_app g2, read_get g2, read_app g2, *, -hK, -hpl, -hXl, -kJ, -hsle, -hn16, -ov3, -kJ3, -hcp, -hcn1, -hfl, -tc, -back3, -hb, -hv] | with_reducible refine IfB_dec (fun h => ?_) (fun h => ?_) | with_reducible refine Guard_dec (fun h => ?_) (fun h => ?_) | with_reducible refine Guard_ndec (fun h => ?_) (fun h => ?_) | with_reducible refine Guard_not (fun h => ?_) (fun h => ?_) | with_reducible refine IfB_ndec (fun h => ?_) (fun h => ?_) | with_reducible refine IfB_not (fun h => ?_) (fun h => ?_) | with_reducible refine Guard_split (fun h => ?_) (fun h => ?_) | with_reducible refine IfB_split (fun h => ?_) (fun h => ?_))
      refine WX_rows hT hmix [(0, none), (1, none), (2, none), (3, none), (4, none), (5, none), (6, none), (7, some [true, true, true, true, true, true, true]), (8, none), (9, none)] (by kernel_rfl) ?_
      repeat' (first | simp only [go_sem, Nat.reduceLT, Nat.reduceEqDiff, Nat.reduceAdd, Nat.reduceMul, Nat.reduceSub, Nat.reduceLeDiff, Int.reduceToNat, Int.reduceNeg, Int.reduceLT, Int.reduceLE, Int.reduceEq, reduceCtorEq, Int.natCast_zero, Int.natCast_one, Int.cast_ofNat_Int, Bool.not_not, false_eq_decide, true_eq_decide, hread0, hreadk, read_cons0, read_consk, astore_h0, astore_hk, hget0, hgetk, hset0, hsetk, hlen, hcat, Nat.add_assoc, Nat.add_zero, Nat.zero_add, List.length_append, and_true, true_and, AV.flat, g2, get_app g2, read_get g2, read_app g2, *, -hK, -hpl, -hXl, -kJ, -hsle, -hn16, -ov3, -kJ3, -hcp, -hcn1, -hfl, -tc, -back3, -hb, -hv] | with_reducible refine IfB_dec (fun h => ?_) (fun h => ?_) | with_reducible refine Guard_dec (fun h => ?_) (fun h => ?_) | with_reducible refine Guard_ndec (fun h => ?_) (fun h => ?_) | with_reducible refine Guard_not (fun h => ?_) (fun h => ?_) | with_reducible refine IfB_ndec (fun h => ?_) (fun h => ?_) | with_reducible refine IfB_not (fun h => ?_) (fun h => ?_) | with_reducible refine Guard_split (fun h => ?_) (fun h => ?_) | with_reducible refine IfB_split (fun h => ?_) (fun h => ?_))
      exact back3 _ _ (by (repeat (first | exact hs | refine hA _ _ _ (by decide) ?_))) (by simp only [go_sem, Nat.reduceLT, Nat.reduceEqDiff, Nat.reduceAdd, Nat.reduceMul, Nat.reduceSub, Nat.reduceLeDiff, Int.reduceToNat, Int.reduceNeg, Int.reduceLT, Int.reduceLE, Int.reduceEq, reduceCtorEq]) (by simp only [go_sem, Nat.reduceLT, Nat.reduceEqDiff, Nat.reduceAdd, Nat.reduceMul, Nat.reduceSub, Nat.reduceLeDiff, Int.reduceToNat, Int.reduceNeg, Int.reduceLT, Int.reduceLE, Int.reduceEq, reduceCtorEq]) rfl (by repeat (first | exact hAf3 | refine hA0 _ _ _ (by decide) ?_)) (by repeat (first | exact hBf3 | refine hB0 _ _ _ (by decide) ?_))
    | false =>
      rw [hb] at f14 back3
      rw [Bool.false_or] at back3
      repeat' (first | simp only [go_sem, Nat.reduceLT, Nat.reduceEqDiff, Nat.reduceAdd, Nat.reduceMul, Nat.reduceSub, Nat.reduceLeDiff, Int.reduceToNat, Int.reduceNeg, Int.reduceLT, Int.reduceLE, Int.reduceEq, reduceCtorEq, Int.natCast_zero, Int.natCast_one, Int.cast_ofNat_Int, Bool.not_not, false_eq_decide, true_eq_decide, hread0, hreadk, read_cons0, read_consk, astore_h0, astore_hk, hget0, hgetk, hset0, hsetk, hlen, hcat, Nat.add_assoc, Nat.add_zero, Nat.zero_add, List.length_append, and_true, true_and, AV.flat, g2, get_app g2, read_get g2, read_app g2, *, -hK, -hpl, -hXl, -kJ, -hsle, -hn16, -ov3, -kJ3, -hcp, -hcn1, -hfl, -tc, -back3, -hb, -hv] | with_reducible refine IfB_dec (fun h => ?_) (fun h => ?_) | with_reducible refine Guard_dec (fun h => ?_) (fun h => ?_) | with_reducible refine Guard_ndec (fun h => ?_) (fun h => ?_) | with_reducible refine Guard_not (fun h => ?_) (fun h => ?_) | with_reducible refine IfB_ndec (fun h => ?_) (fun h => ?_) | with_reducible refine IfB_not (fun h => ?_) (fun h => ?_) | with_reducible refine Guard_split (fun h => ?_) (fun h => ?_) | with_reducible refine IfB_split (fun h => ?_) (fun h => ?_))
      refine WX_rows hT hmix [(0, none), (1, none), (2, none), (3, none), (4, none), (5, none), (6, none), (7, some [true, true, true, true, true, true, true]), (8, none), (9, none)] (by kernel_rfl) ?_
      repeat' (first | simp only [go_sem, Nat.reduceLT, Nat.reduceEqDiff, Nat.reduceAdd, Nat.reduceMul, Nat.reduceSub, Nat.reduceLeDiff, Int.reduceToNat, Int.reduceNeg, Int.reduceLT, Int.reduceLE, Int.reduceEq, reduceCtorEq, Int.natCast_zero, Int.natCast_one, Int.cast_ofNat_Int, Bool.not_not, false_eq_decide, true_eq_decide, hread0, hreadk, read_cons0, read_consk, astore_h0, astore_hk, hget0, hgetk, hset0, hsetk, hlen, hcat, Nat.add_assoc, Nat.add_zero, Nat.zero_add, List.length_append, and_true, true_and, AV.flat, g2, get_app g2, read_get g2, read_app g2, *, -hK, -hpl, -hXl, -kJ, -hsle, -hn16, -ov3, -kJ3, -hcp, -hcn1, -hfl, -tc, -back3, -hb, -hv] | refine WC.call (tc _) ?_ | with_reducible refine IfB_dec (fun h => ?_) (fun h => ?_) | with_reducible refine Guard_dec (fun h => ?_) (fun h => ?_) | with_reducible refine Guard_ndec (fun h => ?_) (fun h => ?_) | with_reducible refine Guard_not (fun h => ?_) (fun h => ?_) | with_reducible refine IfB_ndec (fun h => ?_) (fun h => ?_) | with_reducible refine IfB_not (fun h => ?_) (fun h => ?_) | with_reducible refine Guard_split (fun h => ?_) (fun h => ?_) | with_reducible refine IfB_split (fun h => ?_) (fun h => ?_))
      exact back3 _ _ (by (repeat (first | exact hs | refine hA _ _ _ (by decide) ?_))) (by simp only [go_sem, Nat.reduceLT, Nat.reduceEqDiff, Nat.reduceAdd, Nat.reduceMul, Nat.reduceSub, Nat.reduceLeDiff, Int.reduceToNat, Int.reduceNeg, Int.reduceLT, Int.reduceLE, Int.reduceEq, reduceCtorEq]) (by simp only [go_sem, Nat.reduceLT, Nat.reduceEqDiff, Nat.reduceAdd, Nat.reduceMul, Nat.reduceSub, Nat.reduceLeDiff, Int.reduceToNat, Int.reduceNeg, Int.reduceLT, Int.reduceLE, Int.reduceEq, reduceCtorEq]) rfl (by repeat (first | exact hAf3 | refine hA0 _ _ _ (by decide) ?_)) (by repeat (first | exact hBf3 | refine hB0 _ _ _ (by decide) ?_))
  have i7 : ¬ (k2 : Int) < cs.length := by omega
  have hke : k2 = cs.length := by omega
  rw [hke, List.take_length] at f14
  generalize hitB cs n = hit at *
  repeat' (first | simp only [go_sem, Nat.reduceLT, Nat.reduceEqDiff, Nat.reduceAdd, Nat.reduceMul, Nat.reduceSub, Nat.reduceLeDiff, Int.reduceToNat, Int.reduceNeg, Int.reduceLT, Int.reduceLE, Int.reduceEq, reduceCtorEq, Int.natCast_zero, Int.natCast_one, Int.cast_ofNat_Int, Bool.not_not, false_eq_decide, true_eq_decide, hread0, hreadk, read_cons0, read_consk, astore_h0, astore_hk, hget0, hgetk, hset0, hsetk, hlen, hcat, Nat.add_assoc, Nat.add_zero, Nat.zero_add, List.length_append, and_true, true_and, AV.flat, g2, get_app g2, read_get g2, read_app g2, *, -hK, -hpl, -hXl, -kJ, -hsle, -hn16, -ov3, -kJ3, -hcp, -hcn1, -hfl, -back2, -hv, -hke, -hlk] | with_reducible refine IfB_dec (fun h => ?_) (fun h => ?_) | with_reducible refine Guard_dec (fun h => ?_) (fun h => ?_) | with_reducible refine Guard_ndec (fun h => ?_) (fun h => ?_) | with_reducible refine Guard_not (fun h => ?_) (fun h => ?_) | with_reducible refine IfB_ndec (fun h => ?_) (fun h => ?_) | with_reducible refine IfB_not (fun h => ?_) (fun h => ?_) | with_reducible refine Guard_split (fun h => ?_) (fun h => ?_) | with_reducible refine IfB_split (fun h => ?_) (fun h => ?_))
  have o1 := s1
  have o2 := s2
  have o5 := s5
  have o6 := s6
  have o7 := s7
  have o9 := s9
  have o10 := s10
  have o11 := s11
  have o12 := s12
  have o13 := s13
  refine WX_loopS [1, 2, 5, 6, 7, 9, 10, 11, 12, 13, 14] (fun k fr' J5 => ∃ (k2 : Nat), k = P.length - k2 ∧ k2 ≤ P.length ∧ fr'.get 17 = .int .i64 k2 ∧ fr'.get 16 = .int .i64 ((P.take k2).countP (isP c n) : Nat) ∧ J5 = J4 ∧ A fr' ∧ A2 fr') P.length ⟨0, rfl, by omega, by simp only [go_sem, Nat.reduceLT, Nat.reduceEqDiff, Nat.reduceAdd, Nat.reduceMul, Nat.reduceSub, Nat.reduceLeDiff, Int.reduceToNat, Int.reduceNeg, Int.reduceLT, Int.reduceLE, Int.reduceEq, reduceCtorEq]; rfl, by simp only [go_sem, Nat.reduceLT, Nat.reduceEqDiff, Nat.reduceAdd, Nat.reduceMul, Nat.reduceSub, Nat.reduceLeDiff, Int.reduceToNat, Int.reduceNeg, Int.reduceLT, Int.reduceLE, Int.reduceEq, reduceCtorEq]; rfl, rfl, by repeat (first | exact hAf3 | refine hA0 _ _ _ (by decide) ?_), by repeat (first | exact hBf3 | refine hB0 _ _ _ (by decide) ?_)⟩ ?_
  clear hg hs hA hR3 s1 s2 s5 s6 s7 s9 s10 s11 s12 s13 f15 hAf3 hBf3
  rintro k fr' J5 A4 R4 hA hs hg hR4 ⟨k3, rfl, hk3, f17, f16, rfl, hAf4, hBf4⟩
  have s1 := hg 1 (by decide)
  have s2 := hg 2 (by decide)
  have s5 := hg 5 (by decide)
  have s6 := hg 6 (by decide)
  have s7 := hg 7 (by decide)
  have s9 := hg 9 (by decide)
  have s10 := hg 10 (by decide)
  have s11 := hg 11 (by decide)
  have s12 := hg 12 (by decide)
  have s13 := hg 13 (by decide)
  have s14 := hg 14 (by decide)
  simp only [Fr.get_put, Fr.get_init, List.getD_cons_zero, List.getD_cons_succ, Nat.reduceEqDiff, if_true, if_false] at s1 s2 s5 s6 s7 s9 s10 s11 s12 s13 s14
  rw [o1] at s1
  rw [o2] at s2
  rw [o5] at s5
  rw [o6] at s6
  rw [o7] at s7
  rw [o9] at s9
  rw [o10] at s10
  rw [o11] at s11
  rw [o12] at s12
  rw [o13] at s13
  rw [f14] at s14
  clear o1 o2 o5 o6 o7 o9 o10 o11 o12 o13 f14
  refine wx_sound hT _ ?_
  by_cases hlk3 : k3 < P.length
  · have i8 : (k3 : Int) < P.length := by omega
    have e8 := at_enc (E := puE) (T := T) (k := .i64) se31 hlk3 rfl
    have e9 := inc_id hlk3 (show P.length ≤ 140737488355328 by omega)
    have hst : (P.take (k3 + 1)).countP (isP c n) = (P.take k3).countP (isP c n) + if isP c n P[k3] = true then 1 else 0 := by
      rw [List.take_succ_eq_append_getElem hlk3, List.countP_append]; simp [List.countP_cons]
    have hcp3 : (P.take k3).countP (isP c n) ≤ 128 := by have := List.countP_le_length (p := isP c n) (l := P.take k3); rw [List.length_take] at this; omega
    have back4 : ∀ fr2 J6, A4 fr2 → fr2.get 17 = .int .i64 ((k3 + 1 : Nat) : Int) → fr2.get 16 = .int .i64 (((P.take k3).countP (isP c n) + if isP c n P[k3] = true then 1 else 0 : Nat) : Int) → J6 = J5 → A fr2 → A2 fr2 → R4 fr2 J6 := fun fr2 J6 ha j1 j2 j3 j4 j5 => hR4 fr2 J6 ha (P.length - (k3 + 1)) (by omega) ⟨k3 + 1, rfl, by omega, j1, by rw [hst]; exact j2, j3, j4, j5⟩
    clear hR4 hst back2
    rw [puE_cells] at e8
    generalize (P.take k3).countP (isP c n) = m3 at *
    have e10 : IntKind.i64.wrap ((m3 : Int) + 1) = ((m3 + 1 : Nat) : Int) := by rw [IntKind.wrap_i64]; omega
    unfold isP at back4
    generalize P[k3] = pu at *
    obtain ⟨uc, ut, uk⟩ := pu
    obtain ⟨nt, nk⟩ := n
    simp only at e8 back4 g2
    by_cases hu1 : uc = (c : Int)
    · by_cases hu2 : ut = nt
      · by_cases hu3 : uk = nk
        · rw [show decide (uc = (c : Int) ∧ ut = nt ∧ uk = nk) = true by simp [hu1, hu2, hu3], if_pos rfl] at back4
          subst hu1 hu2 hu3
          repeat' (first | simp only [go_sem, Nat.reduceLT, Nat.reduceEqDiff, Nat.reduceAdd, Nat.reduceMul, Nat.reduceSub, Nat.reduceLeDiff, Int.reduceToNat, Int.reduceNeg, Int.reduceLT, Int.reduceLE, Int.reduceEq, reduceCtorEq, Int.natCast_zero, Int.natCast_one, Int.cast_ofNat_Int, Bool.not_not, false_eq_decide, true_eq_decide, hread0, hreadk, read_cons0, read_consk, astore_h0, astore_hk, hget0, hgetk, hset0, hsetk, hlen, hcat, Nat.add_assoc, Nat.add_zero, Nat.zero_add, List.length_append, and_true, true_and, AV.flat, g2, get_app g2, read_get g2, read_app g2, *, -hK, -hpl, -hXl, -kJ, -hsle, -hn16, -ov3, -kJ3, -hcp, -hcn1, -hfl, -back4, -hv, -hcp3] | with_reducible refine IfB_dec (fun h => ?_) (fun h => ?_) | with_reducible refine Guard_dec (fun h => ?_) (fun h => ?_) | with_reducible refine Guard_ndec (fun h => ?_) (fun h => ?_) | with_reducible refine Guard_not (fun h => ?_) (fun h => ?_) | with_reducible refine IfB_ndec (fun h => ?_) (fun h => ?_) | with_reducible refine IfB_not (fun h => ?_) (fun h => ?_) | with_reducible refine Guard_split (fun h => ?_) (fun h => ?_) | with_reducible refine IfB_split (fun h => ?_) (fun h => ?_))
          refine WX_rows hT hmix [(0, none), (1, none), (2, none), (3, none), (4, none), (5, none), (6, none), (7, none), (8, none), (9, none), (10, none), (11, none), (12, none), (13, none), (14, none), (15, none)] (by kernel_rfl) ?_
          repeat' (first | simp only [go_sem, Nat.reduceLT, Nat.reduceEqDiff, Nat.reduceAdd, Nat.reduceMul, Nat.reduceSub, Nat.reduceLeDiff, Int.reduceToNat, Int.reduceNeg, Int.reduceLT, Int.reduceLE, Int.reduceEq, reduceCtorEq, Int.natCast_zero, Int.natCast_one, Int.cast_ofNat_Int, Bool.not_not, false_eq_decide, true_eq_decide, hread0, hreadk, read_cons0, read_consk, astore_h0, astore_hk, hget0, hgetk, hset0, hsetk, hlen, hcat, Nat.add_assoc, Nat.add_zero, Nat.zero_add, List.length_append, and_true, true_and, AV.flat, g2, get_app g2, read_get g2, read_app g2, *, -hK, -hpl, -hXl, -kJ, -hsle, -hn16, -ov3, -kJ3, -hcp, -hcn1, -hfl, -back4, -hv, -hcp3] | with_reducible refine IfB_dec (fun h => ?_) (fun h => ?_) | with_reducible refine Guard_dec (fun h => ?_) (fun h => ?_) | with_reducible refine Guard_ndec (fun h => ?_) (fun h => ?_) | with_reducible refine Guard_not (fun h => ?_) (fun h => ?_) | with_reducible refine IfB_ndec (fun h => ?_) (fun h => ?_) | with_reducible refine IfB_not (fun h => ?_) (fun h => ?_) | with_reducible refine Guard_split (fun h => ?_) (fun h => ?_) | with_reducible refine IfB_split (fun h => ?_) (fun h => ?_))
          exact back4 _ _ (by (repeat (first | exact hs | refine hA _ _ _ (by decide) ?_))) (by simp only [go_sem, Nat.reduceLT, Nat.reduceEqDiff, Nat.reduceAdd, Nat.reduceMul, Nat.reduceSub, Nat.reduceLeDiff, Int.reduceToNat, Int.reduceNeg, Int.reduceLT, Int.reduceLE, Int.reduceEq, reduceCtorEq]) (by simp only [go_sem, Nat.reduceLT, Nat.reduceEqDiff, Nat.reduceAdd, Nat.reduceMul, Nat.reduceSub, Nat.reduceLeDiff, Int.reduceToNat, Int.reduceNeg, Int.reduceLT, Int.reduceLE, Int.reduceEq, reduceCtorEq]) rfl (by repeat (first | exact hAf4 | refine hA0 _ _ _ (by decide) ?_)) (by repeat (first | exact hBf4 | refine hB0 _ _ _ (by decide) ?_))
        · rw [show decide (uc = (c : Int) ∧ ut = nt ∧ uk = nk) = false by simp [hu3], if_neg (by decide)] at back4
          subst hu1 hu2
          repeat' (first | simp only [go_sem, Nat.reduceLT, Nat.reduceEqDiff, Nat.reduceAdd, Nat.reduceMul, Nat.reduceSub, Nat.reduceLeDiff, Int.reduceToNat, Int.reduceNeg, Int.reduceLT, Int.reduceLE, Int.reduceEq, reduceCtorEq, Int.natCast_zero, Int.natCast_one, Int.cast_ofNat_Int, Bool.not_not, false_eq_decide, true_eq_decide, hread0, hreadk, read_cons0, read_consk, astore_h0, astore_hk, hget0, hgetk, hset0, hsetk, hlen, hcat, Nat.add_assoc, Nat.add_zero, Nat.zero_add, List.length_append, and_true, true_and, AV.flat, g2, get_app g2, read_get g2, read_app g2, *, -hK, -hpl, -hXl, -kJ, -hsle, -hn16, -ov3, -kJ3, -hcp, -hcn1, -hfl, -back4, -hv, -hcp3] | with_reducible refine IfB_dec (fun h => ?_) (fun h => ?_) | with_reducible refine Guard_dec (fun h => ?_) (fun h => ?_) | with_reducible refine Guard_ndec (fun h => ?_) (fun h => ?_) | with_reducible refine Guard_not (fun h => ?_) (fun h => ?_) | with_reducible refine IfB_ndec (fun h => ?_) (fun h => ?_) | with_reducible refine IfB_not (fun h => ?_) (fun h => ?_) | with_reducible refine Guard_split (fun h => ?_) (fun h => ?_) | with_reducible refine IfB_split (fun h => ?_) (fun h => ?_))
          refine WX_rows hT hmix [(0, none), (1, none), (2, none), (3, none), (4, none), (5, none), (6, none), (7, none), (8, none), (9, none), (10, none), (11, none), (12, none), (13, none), (14, none), (15, none)] (by kernel_rfl) ?_
          repeat' (first | simp only [go_sem, Nat.reduceLT, Nat.reduceEqDiff, Nat.reduceAdd, Nat.reduceMul, Nat.reduceSub, Nat.reduceLeDiff, Int.reduceToNat, Int.reduceNeg, Int.reduceLT, Int.reduceLE, Int.reduceEq, reduceCtorEq, Int.natCast_zero, Int.natCast_one, Int.cast_ofNat_Int, Bool.not_not, false_eq_decide, true_eq_decide, hread0, hreadk, read_cons0, read_consk, astore_h0, astore_hk, hget0, hgetk, hset0, hsetk, hlen, hcat, Nat.add_assoc, Nat.add_zero, Nat.zero_add, List.length_append, and_true, true_and, AV.flat, g2, get_app g2, read_get g2, read_app g2, *, -hK, -hpl, -hXl, -kJ, -hsle, -hn16, -ov3, -kJ3, -hcp, -hcn1, -hfl, -back4, -hv, -hcp3] | with_reducible refine IfB_dec (fun h => ?_) (fun h => ?_) | with_reducible refine Guard_dec (fun h => ?_) (fun h => ?_) | with_reducible refine Guard_ndec (fun h => ?_) (fun h => ?_) | with_reducible refine Guard_not (fun h => ?_) (fun h => ?_) | with_reducible refine IfB_ndec (fun h => ?_) (fun h => ?_) | with_reducible refine IfB_not (fun h => ?_) (fun h => ?_) | with_reducible refine Guard_split (fun h => ?_) (fun h => ?_) | with_reducible refine IfB_split (fun h => ?_) (fun h => ?_))
          exact back4 _ _ (by (repeat (first | exact hs | refine hA _ _ _ (by decide) ?_))) (by simp only [go_sem, Nat.reduceLT, Nat.reduceEqDiff, Nat.reduceAdd, Nat.reduceMul, Nat.reduceSub, Nat.reduceLeDiff, Int.reduceToNat, Int.reduceNeg, Int.reduceLT, Int.reduceLE, Int.reduceEq, reduceCtorEq]) (by simp only [go_sem, Nat.reduceLT, Nat.reduceEqDiff, Nat.reduceAdd, Nat.reduceMul, Nat.reduceSub, Nat.reduceLeDiff, Int.reduceToNat, Int.reduceNeg, Int.reduceLT, Int.reduceLE, Int.reduceEq, reduceCtorEq]; exact f16) rfl (by repeat (first | exact hAf4 | refine hA0 _ _ _ (by decide) ?_)) (by repeat (first | exact hBf4 | refine hB0 _ _ _ (by decide) ?_))
      · rw [show decide (uc = (c : Int) ∧ ut = nt ∧ uk = nk) = false by simp [hu2], if_neg (by decide)] at back4
        subst hu1
        repeat' (first | simp only [go_sem, Nat.reduceLT, Nat.reduceEqDiff, Nat.reduceAdd, Nat.reduceMul, Nat.reduceSub, Nat.reduceLeDiff, Int.reduceToNat, Int.reduceNeg, Int.reduceLT, Int.reduceLE, Int.reduceEq, reduceCtorEq, Int.natCast_zero, Int.natCast_one, Int.cast_ofNat_Int, Bool.not_not, false_eq_decide, true_eq_decide, hread0, hreadk, read_cons0, read_consk, astore_h0, astore_hk, hget0, hgetk, hset0, hsetk, hlen, hcat, Nat.add_assoc, Nat.add_zero, Nat.zero_add, List.length_append, and_true, true_and, AV.flat, g2, get_app g2, read_get g2, read_app g2, *, -hK, -hpl, -hXl, -kJ, -hsle, -hn16, -ov3, -kJ3, -hcp, -hcn1, -hfl, -back4, -hv, -hcp3] | with_reducible refine IfB_dec (fun h => ?_) (fun h => ?_) | with_reducible refine Guard_dec (fun h => ?_) (fun h => ?_) | with_reducible refine Guard_ndec (fun h => ?_) (fun h => ?_) | with_reducible refine Guard_not (fun h => ?_) (fun h => ?_) | with_reducible refine IfB_ndec (fun h => ?_) (fun h => ?_) | with_reducible refine IfB_not (fun h => ?_) (fun h => ?_) | with_reducible refine Guard_split (fun h => ?_) (fun h => ?_) | with_reducible refine IfB_split (fun h => ?_) (fun h => ?_))
        refine WX_rows hT hmix [(0, none), (1, none), (2, none), (3, none), (4, none), (5, none), (6, none), (7, none), (8, none), (9, none), (10, none), (11, none), (12, none), (13, none), (14, none), (15, none)] (by kernel_rfl) ?_
        repeat' (first | simp only [go_sem, Nat.reduceLT, Nat.reduceEqDiff, Nat.reduceAdd, Nat.reduceMul, Nat.reduceSub, Nat.reduceLeDiff, Int.reduceToNat, Int.reduceNeg, Int.reduceLT, Int.reduceLE, Int.reduceEq, reduceCtorEq, Int.natCast_zero, Int.natCast_one, Int.cast_ofNat_Int, Bool.not_not, false_eq_decide, true_eq_decide, hread0, hreadk, read_cons0, read_consk, astore_h0, astore_hk, hget0, hgetk, hset0, hsetk, hlen, hcat, Nat.add_assoc, Nat.add_zero, Nat.zero_add, List.length_append, and_true, true_and, AV.flat, g2, get_app g2, read_get g2, read_app g2, *, -hK, -hpl, -hXl, -kJ, -hsle, -hn16, -ov3, -kJ3, -hcp, -hcn1, -hfl, -back4, -hv, -hcp3] | with_reducible refine IfB_dec (fun h => ?_) (fun h => ?_) | with_reducible refine Guard_dec (fun h => ?_) (fun h => ?_) | with_reducible refine Guard_ndec (fun h => ?_) (fun h => ?_) | with_reducible refine Guard_not (fun h => ?_) (fun h => ?_) | with_reducible refine IfB_ndec (fun h => ?_) (fun h => ?_) | with_reducible refine IfB_not (fun h => ?_) (fun h => ?_) | with_reducible refine Guard_split (fun h => ?_) (fun h => ?_) | with_reducible refine IfB_split (fun h => ?_) (fun h => ?_))
        exact back4 _ _ (by (repeat (first | exact hs | refine hA _ _ _ (by decide) ?_))) (by simp only [go_sem, Nat.reduceLT, Nat.reduceEqDiff, Nat.reduceAdd, Nat.reduceMul, Nat.reduceSub, Nat.reduceLeDiff, Int.reduceToNat, Int.reduceNeg, Int.reduceLT, Int.reduceLE, Int.reduceEq, reduceCtorEq]) (by simp only [go_sem, Nat.reduceLT, Nat.reduceEqDiff, Nat.reduceAdd, Nat.reduceMul, Nat.reduceSub, Nat.reduceLeDiff, Int.reduceToNat, Int.reduceNeg, Int.reduceLT, Int.reduceLE, Int.reduceEq, reduceCtorEq]; exact f16) rfl (by repeat (first | exact hAf4 | refine hA0 _ _ _ (by decide) ?_)) (by repeat (first | exact hBf4 | refine hB0 _ _ _ (by decide) ?_))
    · rw [show decide (uc = (c : Int) ∧ ut = nt ∧ uk = nk) = false by simp [hu1], if_neg (by decide)] at back4
      repeat' (first | simp only [go_sem, Nat.reduceLT, Nat.reduceEqDiff, Nat.reduceAdd, Nat.reduceMul, Nat.reduceSub, Nat.reduceLeDiff, Int.reduceToNat, Int.reduceNeg, Int.reduceLT, Int.reduceLE, Int.reduceEq, reduceCtorEq, Int.natCast_zero, Int.natCast_one, Int.cast_ofNat_Int, Bool.not_not, false_eq_decide, true_eq_decide, hread0, hreadk, read_cons0, read_consk, astore_h0, astore_hk, hget0, hgetk, hset0, hsetk, hlen, hcat, Nat.add_assoc, Nat.add_zero, Nat.zero_add, List.length_append, and_true, true_and, AV.flat, g2, get_app g2, read_get g2, read_app g2, *, -hK, -hpl, -hXl, -kJ, -hsle, -hn16, -ov3, -kJ3, -hcp, -hcn1, -hfl, -back4, -hv, -hcp3] | with_reducible refine IfB_dec (fun h => ?_) (fun h => ?_) | with_reducible refine Guard_dec (fun h => ?_) (fun h => ?_) | with_reducible refine Guard_ndec (fun h => ?_) (fun h => ?_) | with_reducible refine Guard_not (fun h => ?_) (fun h => ?_) | with_reducible refine IfB_ndec (fun h => ?_) (fun h => ?_) | with_reducible refine IfB_not (fun h => ?_) (fun h => ?_) | with_reducible refine Guard_split (fun h => ?_) (fun h => ?_) | with_reducible refine IfB_split (fun h => ?_) (fun h => ?_))
      refine WX_rows hT hmix [(0, none), (1, none), (2, none), (3, none), (4, none), (5, none), (6, none), (7, none), (8, none), (9, none), (10, none), (11, none), (12, none), (13, none), (14, none), (15, none)] (by kernel_rfl) ?_
      repeat' (first | simp only [go_sem, Nat.reduceLT, Nat.reduceEqDiff, Nat.reduceAdd, Nat.reduceMul, Nat.reduceSub, Nat.reduceLeDiff, Int.reduceToNat, Int.reduceNeg, Int.reduceLT, Int.reduceLE, Int.reduceEq, reduceCtorEq, Int.natCast_zero, Int.natCast_one, Int.cast_ofNat_Int, Bool.not_not, false_eq_decide, true_eq_decide, hread0, hreadk, read_cons0, read_consk, astore_h0, astore_hk, hget0, hgetk, hset0, hsetk, hlen, hcat, Nat.add_assoc, Nat.add_zero, Nat.zero_add, List.length_append, and_true, true_and, AV.flat, g2, get_app g2, read_get g2, read_app g2, *, -hK, -hpl, -hXl, -kJ, -hsle, -hn16, -ov3, -kJ3, -hcp, -hcn1, -hfl, -back4, -hv, -hcp3] | with_reducible refine IfB_dec (fun h => ?_) (fun h => ?_) | with_reducible refine Guard_dec (fun h => ?_) (fun h => ?_) | with_reducible refine Guard_ndec (fun h => ?_) (fun h => ?_) | with_reducible refine Guard_not (fun h => ?_) (fun h => ?_) | with_reducible refine IfB_ndec (fun h => ?_) (fun h => ?_) | with_reducible refine IfB_not (fun h => ?_) (fun h => ?_) | with_reducible refine Guard_split (fun h => ?_) (fun h => ?_) | with_reducible refine IfB_split (fun h => ?_) (fun h => ?_))
      exact back4 _ _ (by (repeat (first | exact hs | refine hA _ _ _ (by decide) ?_))) (by simp only [go_sem, Nat.reduceLT, Nat.reduceEqDiff, Nat.reduceAdd, Nat.reduceMul, Nat.reduceSub, Nat.reduceLeDiff, Int.reduceToNat, Int.reduceNeg, Int.reduceLT, Int.reduceLE, Int.reduceEq, reduceCtorEq]) (by simp only [go_sem, Nat.reduceLT, Nat.reduceEqDiff, Nat.reduceAdd, Nat.reduceMul, Nat.reduceSub, Nat.reduceLeDiff, Int.reduceToNat, Int.reduceNeg, Int.reduceLT, Int.reduceLE, Int.reduceEq, reduceCtorEq]; exact f16) rfl (by repeat (first | exact hAf4 | refine hA0 _ _ _ (by decide) ?_)) (by repeat (first | exact hBf4 | refine hB0 _ _ _ (by decide) ?_))
  have i8 : ¬ (k3 : Int) < P.length := by omega
  have hke3 : k3 = P.length := by omega
  rw [hke3, List.take_length, hcn1] at f16
  cases hit with
  | true =>
    rw [if_pos rfl, if_pos rfl, List.append_nil] at back2
    have w1 : IntKind.i64.wrap (((M + m : Nat) : Int) + 1) = ((M + (m + 1) : Nat) : Int) := by rw [IntKind.wrap_i64]; omega
    rw [if_pos rfl] at f16
    have z1 : ((1 : Nat) : Int) = 1 := rfl
    rw [z1] at f16
    repeat' (first | simp only [go_sem, Nat.reduceLT, Nat.reduceEqDiff, Nat.reduceAdd, Nat.reduceMul, Nat.reduceSub, Nat.reduceLeDiff, Int.reduceToNat, Int.reduceNeg, Int.reduceLT, Int.reduceLE, Int.reduceEq, reduceCtorEq, Int.natCast_zero, Int.natCast_one, Int.cast_ofNat_Int, Bool.not_not, false_eq_decide, true_eq_decide, hread0, hreadk, read_cons0, read_consk, astore_h0, astore_hk, hget0, hgetk, hset0, hsetk, hlen, hcat, Nat.add_assoc, Nat.add_zero, Nat.zero_add, List.length_append, and_true, true_and, AV.flat, g2, get_app g2, read_get g2, read_app g2, hv, one_solid hv, one_cells hv, *, -hK, -hpl, -hXl, -kJ, -hsle, -hn16, -ov3, -kJ3, -hcp, -hcn1, -hfl, -back2, -hv, -hke3, -hlk3, -hke] | with_reducible refine IfB_dec (fun h => ?_) (fun h => ?_) | with_reducible refine Guard_dec (fun h => ?_) (fun h => ?_) | with_reducible refine Guard_ndec (fun h => ?_) (fun h => ?_) | with_reducible refine Guard_not (fun h => ?_) (fun h => ?_) | with_reducible refine IfB_ndec (fun h => ?_) (fun h => ?_) | with_reducible refine IfB_not (fun h => ?_) (fun h => ?_) | with_reducible refine Guard_split (fun h => ?_) (fun h => ?_) | with_reducible refine IfB_split (fun h => ?_) (fun h => ?_))
    exact back2 _ _ _ (by repeat (first | exact hBf4 | refine hB0 _ _ _ (by decide) ?_)) (by simp only [go_sem, Nat.reduceLT, Nat.reduceEqDiff, Nat.reduceAdd, Nat.reduceMul, Nat.reduceSub, Nat.reduceLeDiff, Int.reduceToNat, Int.reduceNeg, Int.reduceLT, Int.reduceLE, Int.reduceEq, reduceCtorEq]) (by simp only [go_sem, Nat.reduceLT, Nat.reduceEqDiff, Nat.reduceAdd, Nat.reduceMul, Nat.reduceSub, Nat.reduceLeDiff, Int.reduceToNat, Int.reduceNeg, Int.reduceLT, Int.reduceLE, Int.reduceEq, reduceCtorEq]) (by simp only [go_sem, Nat.reduceLT, Nat.reduceEqDiff, Nat.reduceAdd, Nat.reduceMul, Nat.reduceSub, Nat.reduceLeDiff, Int.reduceToNat, Int.reduceNeg, Int.reduceLT, Int.reduceLE, Int.reduceEq, reduceCtorEq]; exact s11) ov3 kJ3 (by repeat (first | exact hAf4 | refine hA0 _ _ _ (by decide) ?_))
  | false =>
    rw [if_neg (by decide), if_neg (by decide)] at back2
    simp only [Nat.add_zero] at back2
    rw [if_neg (by decide)] at f16
    have z0 : ((0 : Nat) : Int) = 0 := rfl
    rw [z0] at f16
    have w1 : IntKind.i64.wrap (((M + m : Nat) : Int) + 0) = ((M + m : Nat) : Int) := by rw [IntKind.wrap_i64]; omega
    have w2 : IntKind.i64.wrap ((M + m : Nat) : Int) = ((M + m : Nat) : Int) := by rw [IntKind.wrap_i64]; omega
    have hJl : J.length ≤ J5.length := kJ3.len
    repeat' (first | simp only [go_sem, Nat.reduceLT, Nat.reduceEqDiff, Nat.reduceAdd, Nat.reduceMul, Nat.reduceSub, Nat.reduceLeDiff, Int.reduceToNat, Int.reduceNeg, Int.reduceLT, Int.reduceLE, Int.reduceEq, reduceCtorEq, Int.natCast_zero, Int.natCast_one, Int.cast_ofNat_Int, Bool.not_not, false_eq_decide, true_eq_decide, hread0, hreadk, read_cons0, read_consk, astore_h0, astore_hk, hget0, hgetk, hset0, hsetk, hlen, hcat, Nat.add_assoc, Nat.add_zero, Nat.zero_add, List.length_append, and_true, true_and, AV.flat, g2, get_app g2, read_get g2, read_app g2, hv, one_solid hv, one_cells hv, *, -hK, -hpl, -hXl, -kJ, -hsle, -hn16, -ov3, -kJ3, -hcp, -hcn1, -hfl, -back2, -hv, -hke3, -hlk3, -hke, -hJl] | with_reducible refine IfB_dec (fun h => ?_) (fun h => ?_) | with_reducible refine Guard_dec (fun h => ?_) (fun h => ?_) | with_reducible refine Guard_ndec (fun h => ?_) (fun h => ?_) | with_reducible refine Guard_not (fun h => ?_) (fun h => ?_) | with_reducible refine IfB_ndec (fun h => ?_) (fun h => ?_) | with_reducible refine IfB_not (fun h => ?_) (fun h => ?_) | with_reducible refine Guard_split (fun h => ?_) (fun h => ?_) | with_reducible refine IfB_split (fun h => ?_) (fun h => ?_))
    refine append1_enc (E := nmE) (x := n) ov3 rfl se34 az38 td38 tk34 rfl rfl (by decide) (by show (lf.length + 1) * 50 ≤ _; omega) hJl ?_
    intro v5 H5 o5 k5 hn5
    have hv5 := o5.one
    repeat' (first | simp only [go_sem, Nat.reduceLT, Nat.reduceEqDiff, Nat.reduceAdd, Nat.reduceMul, Nat.reduceSub, Nat.reduceLeDiff, Int.reduceToNat, Int.reduceNeg, Int.reduceLT, Int.reduceLE, Int.reduceEq, reduceCtorEq, Int.natCast_zero, Int.natCast_one, Int.cast_ofNat_Int, Bool.not_not, false_eq_decide, true_eq_decide, hread0, hreadk, read_cons0, read_consk, astore_h0, astore_hk, hget0, hgetk, hset0, hsetk, hlen, hcat, Nat.add_assoc, Nat.add_zero, Nat.zero_add, List.length_append, and_true, true_and, AV.flat, hv, one_solid hv, one_cells hv, hv5, one_solid hv5, one_cells hv5, *, -hK, -hpl, -hXl, -kJ, -hsle, -hn16, -ov3, -kJ3, -hcp, -hcn1, -hfl, -back2, -hke3, -hlk3, -hke, -hJl, -o5, -k5, -hn5] | with_reducible refine IfB_dec (fun h => ?_) (fun h => ?_) | with_reducible refine Guard_dec (fun h => ?_) (fun h => ?_) | with_reducible refine Guard_ndec (fun h => ?_) (fun h => ?_) | with_reducible refine Guard_not (fun h => ?_) (fun h => ?_) | with_reducible refine IfB_ndec (fun h => ?_) (fun h => ?_) | with_reducible refine IfB_not (fun h => ?_) (fun h => ?_) | with_reducible refine Guard_split (fun h => ?_) (fun h => ?_) | with_reducible refine IfB_split (fun h => ?_) (fun h => ?_))
    exact back2 _ _ _ (by repeat (first | exact hBf4 | refine hB0 _ _ _ (by decide) ?_)) (by simp only [go_sem, Nat.reduceLT, Nat.reduceEqDiff, Nat.reduceAdd, Nat.reduceMul, Nat.reduceSub, Nat.reduceLeDiff, Int.reduceToNat, Int.reduceNeg, Int.reduceLT, Int.reduceLE, Int.reduceEq, reduceCtorEq]) (by simp only [go_sem, Nat.reduceLT, Nat.reduceEqDiff, Nat.reduceAdd, Nat.reduceMul, Nat.reduceSub, Nat.reduceLeDiff, Int.reduceToNat, Int.reduceNeg, Int.reduceLT, Int.reduceLE, Int.reduceEq, reduceCtorEq]) rfl (by simp only [go_sem, Nat.reduceLT, Nat.reduceEqDiff, Nat.reduceAdd, Nat.reduceMul, Nat.reduceSub, Nat.reduceLeDiff, Int.reduceToNat, Int.reduceNeg, Int.reduceLT, Int.reduceLE, Int.reduceEq, reduceCtorEq]; exact o5) (kJ3.via k5 (fun b hb => ov3.ge hb)) (by repeat (first | exact hAf4 | refine hA0 _ _ _ (by decide) ?_))
end Go.Proofs.Ytccfhighlpfdmaa
