import Derived.Test.YtccfhighlpfdmaaTrkM2
set_option linter.unusedSimpArgs false
set_option linter.unusedVariables false
set_option maxRecDepth 100000
set_option maxHeartbeats 4000000
namespace Go.Proofs.Ytccfhighlpfdmaa
open Go Go.Proofs Go.Proofs.PI
theorem refRead_own (l : List Tk) (i : Int) (n : Nm) (hn : l.length ≤ 140737488355328) (hns : ∀ t ∈ l, t.ns.length ≤ 140737488355328) (H : Heap) :
    WC Try.prog 32 [trAv l, .int .i64 i, n.av] H fun r H' => (∃ v pv, r = .tup [.agg [v], pv, .int .i64 (trRead l i n).2] ∧ TrOut H.length H' v (trRead l i n).1.1 ∧ OwnE puE H.length H' pv (trRead l i n).1.2) ∧ Keep none H H' := by
  refine WC_of_K fun K hK => ?_
  have ask := fun J => refAsked_spec l i hn hns J
  have c1 := fun J => refName_spec n J
  unfold Nm.av trAv at *
  by_cases ha : askE l i = 0
  rotate_left
  · have hr : trRead l i n = (([], []), askE l i) := by unfold trRead; rw [if_neg ha]
    rw [hr] at hK
    clear hr
    generalize askE l i = e at *
    refine WC_of_body hT Try.func32 rfl (by simp [Try.f32]) (by simp [Try.f32]) (wx_sound hT _ ?_)
    simp only [Try.f32]
    repeat' (first | simp only [go_sem, Nat.reduceLT, Nat.reduceEqDiff, Nat.reduceAdd, Nat.reduceMul, Nat.reduceSub, Nat.reduceLeDiff, Int.reduceToNat, Int.reduceNeg, Int.reduceLT, Int.reduceLE, Int.reduceEq, reduceCtorEq, Int.natCast_zero, Int.natCast_one, Int.cast_ofNat_Int, Bool.not_not, false_eq_decide, true_eq_decide, hread0, hreadk, read_cons0, read_consk, astore_h0, astore_hk, hget0, hgetk, hset0, hsetk, hlen, hcat, Nat.add_assoc, Nat.add_zero, Nat.zero_add, List.length_append, and_true, true_and, AV.flat, *, -hK, -hns, -ask, -c1] | refine WC.call (ask _) ?_ | with_reducible refine IfB_dec (fun h => ?_) (fun h => ?_) | with_reducible refine Guard_dec (fun h => ?_) (fun h => ?_) | with_reducible refine Guard_ndec (fun h => ?_) (fun h => ?_) | with_reducible refine Guard_not (fun h => ?_) (fun h => ?_) | with_reducible refine IfB_ndec (fun h => ?_) (fun h => ?_) | with_reducible refine IfB_not (fun h => ?_) (fun h => ?_) | with_reducible refine Guard_split (fun h => ?_) (fun h => ?_) | with_reducible refine IfB_split (fun h => ?_) (fun h => ?_))
    exact hK _ _ ⟨⟨_, _, rfl, .inl ⟨rfl, rfl⟩, OwnE.nils _ _ _⟩, Keep.app _ _ _⟩
  rw [ha] at ask
  cases hmn : n.mayB with
  | false =>
    have hr : trRead l i n = (([], []), 8) := by unfold trRead; rw [if_pos ha, if_neg (by simp [hmn])]
    rw [hr] at hK
    rw [hmn] at c1
    clear hr ha
    refine WC_of_body hT Try.func32 rfl (by simp [Try.f32]) (by simp [Try.f32]) (wx_sound hT _ ?_)
    simp only [Try.f32]
    repeat' (first | simp only [go_sem, Nat.reduceLT, Nat.reduceEqDiff, Nat.reduceAdd, Nat.reduceMul, Nat.reduceSub, Nat.reduceLeDiff, Int.reduceToNat, Int.reduceNeg, Int.reduceLT, Int.reduceLE, Int.reduceEq, reduceCtorEq, Int.natCast_zero, Int.natCast_one, Int.cast_ofNat_Int, Bool.not_not, false_eq_decide, true_eq_decide, hread0, hreadk, read_cons0, read_consk, astore_h0, astore_hk, hget0, hgetk, hset0, hsetk, hlen, hcat, Nat.add_assoc, Nat.add_zero, Nat.zero_add, List.length_append, and_true, true_and, AV.flat, *, -hK, -hns, -ask, -c1, -hmn] | refine WC.call (ask _) ?_ | refine WC.call (c1 _) ?_ | with_reducible refine IfB_dec (fun h => ?_) (fun h => ?_) | with_reducible refine Guard_dec (fun h => ?_) (fun h => ?_) | with_reducible refine Guard_ndec (fun h => ?_) (fun h => ?_) | with_reducible refine Guard_not (fun h => ?_) (fun h => ?_) | with_reducible refine IfB_ndec (fun h => ?_) (fun h => ?_) | with_reducible refine IfB_not (fun h => ?_) (fun h => ?_) | with_reducible refine Guard_split (fun h => ?_) (fun h => ?_) | with_reducible refine IfB_split (fun h => ?_) (fun h => ?_))
    exact hK _ _ ⟨⟨_, _, rfl, .inl ⟨rfl, rfl⟩, OwnE.nils _ _ _⟩, Keep.app _ _ _⟩
  | true =>
  rw [hmn] at c1
  obtain ⟨hmay, hi0, hi1⟩ := askE_ok ha
  obtain ⟨j, rfl⟩ : ∃ j : Nat, i = j := ⟨i.toNat, by omega⟩
  have hj : j < l.length := by omega
  have hr : trRead l j n = if l[j].on = true then ((l.set j (readT j l[j] n).1, (readT j l[j] n).2), 0) else ((l, []), 0) := by
    unfold trRead; rw [if_pos ha, if_pos hmn, Int.toNat_natCast, tkAt_eq hj]
  rw [hr] at hK
  clear hr ha hmn
  have tw := fun J => refTwin_own l (by have := hmay.2.1; omega) (fun t ht => by have := (hmay.2.2 t ht).1.2; omega) J
  unfold trAv at tw
  have e0 := at_enc (E := tkE) (T := T) (k := .i64) se22 hj rfl
  rw [tkE_cells] at e0
  refine WC_of_body hT Try.func32 rfl (by simp [Try.f32]) (by simp [Try.f32]) (wx_sound hT _ ?_)
  simp only [Try.f32]
  repeat' (first | simp only [go_sem, Nat.reduceLT, Nat.reduceEqDiff, Nat.reduceAdd, Nat.reduceMul, Nat.reduceSub, Nat.reduceLeDiff, Int.reduceToNat, Int.reduceNeg, Int.reduceLT, Int.reduceLE, Int.reduceEq, reduceCtorEq, Int.natCast_zero, Int.natCast_one, Int.cast_ofNat_Int, Bool.not_not, false_eq_decide, true_eq_decide, hread0, hreadk, read_cons0, read_consk, astore_h0, astore_hk, hget0, hgetk, hset0, hsetk, hlen, hcat, Nat.add_assoc, Nat.add_zero, Nat.zero_add, List.length_append, and_true, true_and, AV.flat, *, -hK, -hns, -ask, -c1, -tw, -hmay] | refine WC.call (ask _) ?_ | refine WC.call (c1 _) ?_ | with_reducible refine IfB_dec (fun h => ?_) (fun h => ?_) | with_reducible refine Guard_dec (fun h => ?_) (fun h => ?_) | with_reducible refine Guard_ndec (fun h => ?_) (fun h => ?_) | with_reducible refine Guard_not (fun h => ?_) (fun h => ?_) | with_reducible refine IfB_ndec (fun h => ?_) (fun h => ?_) | with_reducible refine IfB_not (fun h => ?_) (fun h => ?_) | with_reducible refine Guard_split (fun h => ?_) (fun h => ?_) | with_reducible refine IfB_split (fun h => ?_) (fun h => ?_))
  refine (tw _).mono ?_
  rintro r H1 ⟨⟨v, rfl, ho⟩, k⟩
  clear ask tw c1
  have hb0 := k.get (b := H.length) (B := ⟨[tkE.lst l], 0, .full⟩) (by rw [hget0]; rfl) (by simp)
  have hbn := k.get (b := H.length + 1) (B := ⟨[.int .i64 n.ten, .str n.key], 0, .full⟩) (by rw [hgetk]; rfl) (by simp)
  have hbr := k.get (b := H.length + 2) (B := ⟨[.nils], 0, .full⟩) (by rw [hgetk]; rfl) (by simp)
  have kH : Keep none H H1 := (Keep.app none H _).trans k
  have hl1 : H.length + 3 ≤ H1.length := by have := k.len; simpa using this
  rcases ho with ⟨h0, -⟩ | ⟨p, ps, rfl, o⟩
  · rw [h0] at hj; simp at hj
  have o1 := (o.moved (Keep.app none H1 [(⟨[.sl p 0 l.length none], 0, .full⟩ : Blk)])).weaken (m2 := H.length + 3) (by simp)
  have g0 := get_app hb0 [(⟨[.sl p 0 l.length none], 0, .full⟩ : Blk)]
  have gn := get_app hbn [(⟨[.sl p 0 l.length none], 0, .full⟩ : Blk)]
  have gr := get_app hbr [(⟨[.sl p 0 l.length none], 0, .full⟩ : Blk)]
  have g9 : (H1 ++ [(⟨[.sl p 0 l.length none], 0, .full⟩ : Blk)] : Heap)[H1.length]? = some ⟨[.sl p 0 l.length none], 0, .full⟩ := by simp
  have hGl : (H1 ++ [(⟨[.sl p 0 l.length none], 0, .full⟩ : Blk)] : Heap).length = H1.length + 1 := by simp
  have kG := kH.trans (Keep.app none H1 [(⟨[.sl p 0 l.length none], 0, .full⟩ : Blk)])
  have hpl := o.lt
  have hpg := o1.ge
  clear hb0 hbn hbr k kH o
  repeat' (first | simp only [go_sem, Nat.reduceLT, Nat.reduceEqDiff, Nat.reduceAdd, Nat.reduceMul, Nat.reduceSub, Nat.reduceLeDiff, Int.reduceToNat, Int.reduceNeg, Int.reduceLT, Int.reduceLE, Int.reduceEq, reduceCtorEq, Int.natCast_zero, Int.natCast_one, Int.cast_ofNat_Int, Bool.not_not, false_eq_decide, true_eq_decide, hread0, hreadk, read_cons0, read_consk, astore_h0, astore_hk, hget0, hgetk, hset0, hsetk, hlen, hcat, Nat.add_assoc, Nat.add_zero, Nat.zero_add, List.length_append, and_true, true_and, AV.flat, *, -hK, -hns, -hmay, -o1, -g0, -gn, -gr, -g9, -kG, -e0] | with_reducible refine IfB_dec (fun h => ?_) (fun h => ?_) | with_reducible refine Guard_dec (fun h => ?_) (fun h => ?_) | with_reducible refine Guard_ndec (fun h => ?_) (fun h => ?_) | with_reducible refine Guard_not (fun h => ?_) (fun h => ?_) | with_reducible refine IfB_ndec (fun h => ?_) (fun h => ?_) | with_reducible refine IfB_not (fun h => ?_) (fun h => ?_) | with_reducible refine Guard_split (fun h => ?_) (fun h => ?_) | with_reducible refine IfB_split (fun h => ?_) (fun h => ?_))
  generalize (H1 ++ [(⟨[.sl p 0 l.length none], 0, .full⟩ : Blk)] : Heap) = G at *
  have o := o1
  clear o1
  have kset : ∀ C, Keep none H (List.set G (H.length + 2) C) := fun C => ⟨by simp; omega, fun b hb _ => by rw [List.getElem?_set_ne (by omega)]; exact kG.at_ b hb (by simp)⟩
  have kslow : ∀ C b, H.length + 3 ≤ b → b < G.length → (List.set G (H.length + 2) C)[b]? = G[b]? := fun C b hb _ => by rw [List.getElem?_set_ne (by omega)]
  cases hlo : l[j].on with
  | false =>
    rw [hlo] at e0 hK
    rw [if_neg (by decide)] at hK
    repeat' (first | simp only [go_sem, Nat.reduceLT, Nat.reduceEqDiff, Nat.reduceAdd, Nat.reduceMul, Nat.reduceSub, Nat.reduceLeDiff, Int.reduceToNat, Int.reduceNeg, Int.reduceLT, Int.reduceLE, Int.reduceEq, reduceCtorEq, Int.natCast_zero, Int.natCast_one, Int.cast_ofNat_Int, Bool.not_not, false_eq_decide, true_eq_decide, hread0, hreadk, read_cons0, read_consk, astore_h0, astore_hk, hget0, hgetk, hset0, hsetk, hlen, hcat, Nat.add_assoc, Nat.add_zero, Nat.zero_add, List.length_append, and_true, true_and, AV.flat, g0, get_app g0, read_get g0, read_app g0, gn, get_app gn, read_get gn, read_app gn, g9, get_app g9, read_get g9, read_app g9, gr, get_app gr, read_get gr, read_app gr, astore_get gr, astore_app gr, get_set gr, get_set_app gr, read_set gr, read_set_app gr, astore_set gr, astore_set_app gr, List.set_set, hget0s, hgetks, hread0s, hreadks, List.length_set, *, -hK, -hns, -o, -hmay, -kG, -kset, -kslow, -hlo] | with_reducible refine IfB_dec (fun h => ?_) (fun h => ?_) | with_reducible refine Guard_dec (fun h => ?_) (fun h => ?_) | with_reducible refine Guard_ndec (fun h => ?_) (fun h => ?_) | with_reducible refine Guard_not (fun h => ?_) (fun h => ?_) | with_reducible refine IfB_ndec (fun h => ?_) (fun h => ?_) | with_reducible refine IfB_not (fun h => ?_) (fun h => ?_) | with_reducible refine Guard_split (fun h => ?_) (fun h => ?_) | with_reducible refine IfB_split (fun h => ?_) (fun h => ?_))
    exact hK _ _ ⟨⟨_, _, rfl, o.out rfl (by omega) (kslow _), OwnE.nils _ _ _⟩, kset _⟩
  | true =>
  rw [hlo] at e0 hK
  rw [if_pos rfl] at hK
  have h16 : l[j].ns.length ≤ 16 := (hmay.2.2 _ (List.getElem_mem hj)).1.2
  have wo := fun J => without_own l[j].ns n (by omega) J
  unfold Nm.av at wo
  repeat' (first | simp only [go_sem, Nat.reduceLT, Nat.reduceEqDiff, Nat.reduceAdd, Nat.reduceMul, Nat.reduceSub, Nat.reduceLeDiff, Int.reduceToNat, Int.reduceNeg, Int.reduceLT, Int.reduceLE, Int.reduceEq, reduceCtorEq, Int.natCast_zero, Int.natCast_one, Int.cast_ofNat_Int, Bool.not_not, false_eq_decide, true_eq_decide, hread0, hreadk, read_cons0, read_consk, astore_h0, astore_hk, hget0, hgetk, hset0, hsetk, hlen, hcat, Nat.add_assoc, Nat.add_zero, Nat.zero_add, List.length_append, and_true, true_and, AV.flat, g0, get_app g0, read_get g0, read_app g0, gn, get_app gn, read_get gn, read_app gn, g9, get_app g9, read_get g9, read_app g9, *, -hK, -hns, -o, -hmay, -kG, -kset, -kslow, -hlo, -wo, -gr] | with_reducible refine IfB_dec (fun h => ?_) (fun h => ?_) | with_reducible refine Guard_dec (fun h => ?_) (fun h => ?_) | with_reducible refine Guard_ndec (fun h => ?_) (fun h => ?_) | with_reducible refine Guard_not (fun h => ?_) (fun h => ?_) | with_reducible refine IfB_ndec (fun h => ?_) (fun h => ?_) | with_reducible refine IfB_not (fun h => ?_) (fun h => ?_) | with_reducible refine Guard_split (fun h => ?_) (fun h => ?_) | with_reducible refine IfB_split (fun h => ?_) (fun h => ?_))
  refine WX_rows hT hmix [(0, none), (1, none), (2, none), (3, none), (4, none), (5, none), (6, none), (8, none), (9, none), (7, some [false, false, true, true, true, true, true, true, true]), (10, some [true, true, true, true, true, true, true, true, true, true]), (11, none)] (by kernel_rfl) ?_
  repeat' (first | simp only [go_sem, Nat.reduceLT, Nat.reduceEqDiff, Nat.reduceAdd, Nat.reduceMul, Nat.reduceSub, Nat.reduceLeDiff, Int.reduceToNat, Int.reduceNeg, Int.reduceLT, Int.reduceLE, Int.reduceEq, reduceCtorEq, Int.natCast_zero, Int.natCast_one, Int.cast_ofNat_Int, Bool.not_not, false_eq_decide, true_eq_decide, hread0, hreadk, read_cons0, read_consk, astore_h0, astore_hk, hget0, hgetk, hset0, hsetk, hlen, hcat, Nat.add_assoc, Nat.add_zero, Nat.zero_add, List.length_append, and_true, true_and, AV.flat, g0, get_app g0, read_get g0, read_app g0, gn, get_app gn, read_get gn, read_app gn, g9, get_app g9, read_get g9, read_app g9, *, -hK, -hns, -o, -hmay, -kG, -kset, -kslow, -hlo, -wo, -gr] | with_reducible refine IfB_dec (fun h => ?_) (fun h => ?_) | with_reducible refine Guard_dec (fun h => ?_) (fun h => ?_) | with_reducible refine Guard_ndec (fun h => ?_) (fun h => ?_) | with_reducible refine Guard_not (fun h => ?_) (fun h => ?_) | with_reducible refine IfB_ndec (fun h => ?_) (fun h => ?_) | with_reducible refine IfB_not (fun h => ?_) (fun h => ?_) | with_reducible refine Guard_split (fun h => ?_) (fun h => ?_) | with_reducible refine IfB_split (fun h => ?_) (fun h => ?_))
  refine (wo _).mono ?_
  rintro w H2 ⟨ow, k2⟩
  clear wo
  have hw := ow.one
  have gqG : (G ++ [(⟨[.int .i64 n.ten, .str n.key], 2, .full⟩ : Blk)] : Heap)[H1.length + 1]? = some ⟨[.int .i64 n.ten, .str n.key], 2, .full⟩ := by rw [← hGl]; simp
  have gq := k2.get gqG (by simp)
  have q0 := k2.get (get_app g0 _) (by simp)
  have qn := k2.get (get_app gn _) (by simp)
  have hH2 := k2.len
  simp only [List.length_append, List.length_cons, List.length_nil] at hH2 ow
  repeat' (first | simp only [go_sem, Nat.reduceLT, Nat.reduceEqDiff, Nat.reduceAdd, Nat.reduceMul, Nat.reduceSub, Nat.reduceLeDiff, Int.reduceToNat, Int.reduceNeg, Int.reduceLT, Int.reduceLE, Int.reduceEq, reduceCtorEq, Int.natCast_zero, Int.natCast_one, Int.cast_ofNat_Int, Bool.not_not, false_eq_decide, true_eq_decide, hread0, hreadk, read_cons0, read_consk, astore_h0, astore_hk, hget0, hgetk, hset0, hsetk, hlen, hcat, Nat.add_assoc, Nat.add_zero, Nat.zero_add, List.length_append, and_true, true_and, AV.flat, gq, get_app gq, read_get gq, read_app gq, q0, get_app q0, read_get q0, read_app q0, qn, get_app qn, read_get qn, read_app qn, hw, one_solid hw, one_cells hw, *, -hK, -hns, -o, -hmay, -kG, -kset, -kslow, -hlo, -gr, -g0, -gn, -g9, -ow, -k2, -hH2] | with_reducible refine IfB_dec (fun h => ?_) (fun h => ?_) | with_reducible refine Guard_dec (fun h => ?_) (fun h => ?_) | with_reducible refine Guard_ndec (fun h => ?_) (fun h => ?_) | with_reducible refine Guard_not (fun h => ?_) (fun h => ?_) | with_reducible refine IfB_ndec (fun h => ?_) (fun h => ?_) | with_reducible refine IfB_not (fun h => ?_) (fun h => ?_) | with_reducible refine Guard_split (fun h => ?_) (fun h => ?_) | with_reducible refine IfB_split (fun h => ?_) (fun h => ?_))
  refine append_enc (E := nmE) (m := G.length) (ys := [n]) (ow.mono (by omega)) se34 az38 td38 (by rw [Enc.row_one]; exact asrc_sl tk34 (Vs.sl (vs_at gq rfl rfl))) (by decide) (by have := List.length_filter_le (fun m => !decide (m = n)) l[j].ns; show (_ + 1) * 50 ≤ _; omega) (by omega) ?_
  intro w3 H3 o3 k3 hn3
  have hw3 := o3.one
  have kk3 : Keep none G H3 := ((Keep.app none G [(⟨[.int .i64 n.ten, .str n.key], 2, .full⟩ : Blk)]).trans k2).via k3 (fun b hb => by have := ow.ge hb; omega)
  have gq3 := k3.get gq (fun e => by have := ow.ge e; omega)
  have r0 := kk3.get g0 (by simp)
  have rn := kk3.get gn (by simp)
  have rr := kk3.get gr (by simp)
  have r9 := kk3.get g9 (by simp)
  have hH3 := kk3.len
  have o4 := o.moved kk3
  have hrl : (readN l[j].ns n).length = (l[j].ns.filter fun m => !decide (m = n)).length + 1 := by unfold readN; simp
  have hfl := List.length_filter_le (fun m => !decide (m = n)) l[j].ns
  have o5 : OwnE nmE G.length H3 w3 (readN l[j].ns n) := o3
  have e6 := o5.alen (by decide) tk34
  clear o3 gqG q0 qn g0 gn gr g9 k2 gq ow
  have finish : ∀ (Z : List Nm) (P : List Pu) (pv s : AV) (J J2 : Heap), Keep none H3 J → OwnE puE H3.length J pv P → OwnE nmE J.length J2 s Z → Keep none J J2 →
      (∀ r H', (∃ v pv, r = .tup [.agg [v], pv, .int .i64 0] ∧ TrOut H.length H' v (l.set j ⟨true, Z⟩) ∧ OwnE puE H.length H' pv P) ∧ Keep none H H' → K r H') →
      ∃ st rest, astore T J2 34 (.ptr p (j * 2 + 1)) s = some (List.set J2 p ⟨row2 (ps.set j (.bool true, s)) ++ rest, 2, st⟩) ∧
        (∀ D, K (.tup [.agg [.sl p 0 l.length none], pv, .int .i64 0]) (List.set (List.set J2 p ⟨row2 (ps.set j (.bool true, s)) ++ rest, 2, st⟩) (H.length + 2) D)) := by
    intro Z P pv s J J2 kJ op os kJ2 hKK
    have hp2 : p < J2.length := by have := kJ.len; have := kJ2.len; omega
    have oJ := o4.moved kJ
    obtain ⟨x, hx, ht, hon⟩ := oJ.get hj
    obtain ⟨q1, q2⟩ := OwnE.sc os
    obtain ⟨st, rest, hst, w1⟩ := oJ.storeN (T' := T) hx (kJ2.at_ p oJ.lt (by simp)) (te := 34) (by simp only [asize, td34, Option.map_some]) os.one q1 q2
    have hx1 : x.1 = .bool true := by rw [hon, hlo]
    rw [hx1] at w1
    have o6 := oJ.upd' (y := (.bool true, s)) (t2 := ⟨true, Z⟩) (k2 := l.length) hx ht (.inl ⟨rfl, hj⟩) (kJ2.weak) rfl (os.mono (by have := kJ.len; omega)) (fun b hb => .inr (os.ge hb)) rest st hst
    refine ⟨st, rest, w1, fun D => hKK _ _ ⟨⟨_, pv, rfl, ?_, ?_⟩, ?_⟩⟩
    · have := o6.out (G := (List.set (List.set J2 p ⟨row2 (ps.set j (.bool true, s)) ++ rest, 2, st⟩) (H.length + 2) D)) (by rw [List.length_set]) (m2 := H.length) (by omega) (fun b hb _ => by rw [List.getElem?_set_ne (by omega)])
      rw [List.length_set] at this; exact this
    · have hop := op.keep0 kJ2
      have hpG := o.lt
      exact ((OwnE.keep (hop.mono (m' := H.length) (by omega)) (Keep.of_set rfl) (fun b hb e => by cases hb; have := op.ge e; omega)).keep (Keep.of_set rfl) (fun b hb e => by cases hb; have := op.ge e; omega))
    · exact ⟨by simp; have := kJ.len; have := kJ2.len; omega, fun b hb _ => by rw [List.getElem?_set_ne (by omega), List.getElem?_set_ne (by omega), kJ2.at_ b (by have := kJ.len; omega) (by simp), kJ.at_ b (by omega) (by simp), kk3.at_ b (by omega) (by simp)]; exact kG.at_ b hb (by simp)⟩
  by_cases h17 : (readN l[j].ns n).length ≤ 16
  · have i17 : ¬ ((readN l[j].ns n).length : Int) > 16 := by omega
    rw [show readT j l[j] n = (⟨true, readN l[j].ns n⟩, []) by unfold readT; rw [if_pos h17, hlo]] at hK
    simp only at hK
    have src := asrc_sl tk34 (Vs.sl (o5.vs (by decide)))
    repeat' (first | simp only [go_sem, Nat.reduceLT, Nat.reduceEqDiff, Nat.reduceAdd, Nat.reduceMul, Nat.reduceSub, Nat.reduceLeDiff, Int.reduceToNat, Int.reduceNeg, Int.reduceLT, Int.reduceLE, Int.reduceEq, reduceCtorEq, Int.natCast_zero, Int.natCast_one, Int.cast_ofNat_Int, Bool.not_not, false_eq_decide, true_eq_decide, hread0, hreadk, read_cons0, read_consk, astore_h0, astore_hk, hget0, hgetk, hset0, hsetk, hlen, hcat, Nat.add_assoc, Nat.add_zero, Nat.zero_add, List.length_append, and_true, true_and, AV.flat, gq3, get_app gq3, read_get gq3, read_app gq3, r0, get_app r0, read_get r0, read_app r0, rn, get_app rn, read_get rn, read_app rn, hw, one_solid hw, one_cells hw, hw3, one_solid hw3, one_cells hw3, *, -hK, -hns, -o, -hmay, -kG, -kset, -kslow, -hlo, -hH2, -o4, -kk3, -k3, -hn3, -rr, -r9, -hH3, -hrl, -hfl, -o5, -finish, -h17] | with_reducible refine IfB_dec (fun h => ?_) (fun h => ?_) | with_reducible refine Guard_dec (fun h => ?_) (fun h => ?_) | with_reducible refine Guard_ndec (fun h => ?_) (fun h => ?_) | with_reducible refine Guard_not (fun h => ?_) (fun h => ?_) | with_reducible refine IfB_ndec (fun h => ?_) (fun h => ?_) | with_reducible refine IfB_not (fun h => ?_) (fun h => ?_) | with_reducible refine Guard_split (fun h => ?_) (fun h => ?_) | with_reducible refine IfB_split (fun h => ?_) (fun h => ?_))
    refine WX_rows hT hmix [(0, none), (1, none), (2, none), (3, none), (4, some [true, false, false, false]), (5, none), (6, none), (7, some [true, true, true, true, true, true, true])] (by kernel_rfl) ?_
    repeat' (first | simp only [go_sem, Nat.reduceLT, Nat.reduceEqDiff, Nat.reduceAdd, Nat.reduceMul, Nat.reduceSub, Nat.reduceLeDiff, Int.reduceToNat, Int.reduceNeg, Int.reduceLT, Int.reduceLE, Int.reduceEq, reduceCtorEq, Int.natCast_zero, Int.natCast_one, Int.cast_ofNat_Int, Bool.not_not, false_eq_decide, true_eq_decide, hread0, hreadk, read_cons0, read_consk, astore_h0, astore_hk, hget0, hgetk, hset0, hsetk, hlen, hcat, Nat.add_assoc, Nat.add_zero, Nat.zero_add, List.length_append, and_true, true_and, AV.flat, r9, get_app r9, read_get r9, read_app r9, hw3, one_solid hw3, one_cells hw3, *, -hK, -hns, -o, -hmay, -kG, -kset, -kslow, -hlo, -hH2, -o4, -kk3, -k3, -hn3, -rr, -hH3, -hrl, -hfl, -o5, -finish, -h17, -src] | with_reducible refine IfB_dec (fun h => ?_) (fun h => ?_) | with_reducible refine Guard_dec (fun h => ?_) (fun h => ?_) | with_reducible refine Guard_ndec (fun h => ?_) (fun h => ?_) | with_reducible refine Guard_not (fun h => ?_) (fun h => ?_) | with_reducible refine IfB_ndec (fun h => ?_) (fun h => ?_) | with_reducible refine IfB_not (fun h => ?_) (fun h => ?_) | with_reducible refine Guard_split (fun h => ?_) (fun h => ?_) | with_reducible refine IfB_split (fun h => ?_) (fun h => ?_))
    refine append_enc (E := nmE) (m := H3.length) (ys := readN l[j].ns n) (OwnE.nils nmE H3.length _) se34 az38 td38 src (by decide) (by show (0 + (readN l[j].ns n).length) * 50 ≤ _; omega) (Nat.le_refl _) ?_
    intro s J2 os k5 hn5
    rw [List.nil_append] at os
    have hso := os.one
    rw [show (AV.nils).blk = none from rfl] at k5
    obtain ⟨st, rest, w1, fin⟩ := finish _ [] .nils s H3 J2 (Keep.refl _ _) (OwnE.nils _ _ _) os k5 hK
    have hpG := o.lt
    have e1 := TkO.addr (T' := T) (p := p) se22 hj
    have r92 := k5.get r9 (by simp)
    have r93 : (List.set J2 p ⟨row2 (ps.set j (.bool true, s)) ++ rest, 2, st⟩ : Heap)[H1.length]? = some ⟨[.sl p 0 l.length none], 0, .full⟩ := by rw [List.getElem?_set_ne (by omega)]; exact r92
    have rr3 : (List.set J2 p ⟨row2 (ps.set j (.bool true, s)) ++ rest, 2, st⟩ : Heap)[H.length + 2]? = some ⟨[.nils], 0, .full⟩ := by rw [List.getElem?_set_ne (by omega)]; exact k5.get rr (by simp)
    repeat' (first | simp only [go_sem, Nat.reduceLT, Nat.reduceEqDiff, Nat.reduceAdd, Nat.reduceMul, Nat.reduceSub, Nat.reduceLeDiff, Int.reduceToNat, Int.reduceNeg, Int.reduceLT, Int.reduceLE, Int.reduceEq, reduceCtorEq, Int.natCast_zero, Int.natCast_one, Int.cast_ofNat_Int, Bool.not_not, false_eq_decide, true_eq_decide, hread0, hreadk, read_cons0, read_consk, astore_h0, astore_hk, hget0, hgetk, hset0, hsetk, hlen, hcat, Nat.add_assoc, Nat.add_zero, Nat.zero_add, List.length_append, and_true, true_and, AV.flat, r9, get_app r9, read_get r9, read_app r9, r92, get_app r92, read_get r92, read_app r92, r93, get_app r93, read_get r93, read_app r93, rr3, get_app rr3, read_get rr3, read_app rr3, astore_get rr3, astore_app rr3, get_set rr3, get_set_app rr3, read_set rr3, read_set_app rr3, astore_set rr3, astore_set_app rr3, List.set_set, hget0s, hgetks, hread0s, hreadks, List.length_set, hw3, one_solid hw3, one_cells hw3, hso, one_solid hso, one_cells hso, *, -hK, -hns, -o, -hmay, -kG, -kset, -kslow, -hlo, -hH2, -o4, -kk3, -k3, -hn3, -rr, -hH3, -hrl, -hfl, -o5, -finish, -h17, -src, -os, -k5, -hn5, -fin] | with_reducible refine IfB_dec (fun h => ?_) (fun h => ?_) | with_reducible refine Guard_dec (fun h => ?_) (fun h => ?_) | with_reducible refine Guard_ndec (fun h => ?_) (fun h => ?_) | with_reducible refine Guard_not (fun h => ?_) (fun h => ?_) | with_reducible refine IfB_ndec (fun h => ?_) (fun h => ?_) | with_reducible refine IfB_not (fun h => ?_) (fun h => ?_) | with_reducible refine Guard_split (fun h => ?_) (fun h => ?_) | with_reducible refine IfB_split (fun h => ?_) (fun h => ?_))
    exact fin _
  · have i17 : ((readN l[j].ns n).length : Int) > 16 := by omega
    rw [show readT j l[j] n = (⟨true, (readN l[j].ns n).drop 1⟩, ((readN l[j].ns n).take 1).map (pushN j)) by unfold readT; rw [if_neg h17, hlo]] at hK
    simp only at hK
    have hlen : (readN l[j].ns n).length = 17 := by have := readN_len l[j].ns n; omega
    have h0 : 0 < (readN l[j].ns n).length := by omega
    have hq : (readN l[j].ns n).take 1 = [(readN l[j].ns n)[0]] := by rw [List.take_succ_eq_append_getElem h0]; simp
    rw [hq, List.map_cons, List.map_nil] at hK
    obtain ⟨pb, po, a1, a2, -⟩ := o5.at_ (by decide) se34 h0 (k := .i64) (z := 0) rfl
    rw [show nmE.sz = 2 from rfl, nmE_cells] at a2
    generalize hy : (readN l[j].ns n)[0] = y at *
    clear hq
    repeat' (first | simp only [go_sem, Nat.reduceLT, Nat.reduceEqDiff, Nat.reduceAdd, Nat.reduceMul, Nat.reduceSub, Nat.reduceLeDiff, Int.reduceToNat, Int.reduceNeg, Int.reduceLT, Int.reduceLE, Int.reduceEq, reduceCtorEq, Int.natCast_zero, Int.natCast_one, Int.cast_ofNat_Int, Bool.not_not, false_eq_decide, true_eq_decide, hread0, hreadk, read_cons0, read_consk, astore_h0, astore_hk, hget0, hgetk, hset0, hsetk, hlen, hcat, Nat.add_assoc, Nat.add_zero, Nat.zero_add, List.length_append, and_true, true_and, AV.flat, gq3, get_app gq3, read_get gq3, read_app gq3, r0, get_app r0, read_get r0, read_app r0, rn, get_app rn, read_get rn, read_app rn, hw, one_solid hw, one_cells hw, hw3, one_solid hw3, one_cells hw3, *, -hK, -hns, -o, -hmay, -kG, -kset, -kslow, -hlo, -hH2, -o4, -kk3, -k3, -hn3, -rr, -r9, -hH3, -hrl, -hfl, -o5, -finish, -h17, -hlen, -h0, -hy] | with_reducible refine IfB_dec (fun h => ?_) (fun h => ?_) | with_reducible refine Guard_dec (fun h => ?_) (fun h => ?_) | with_reducible refine Guard_ndec (fun h => ?_) (fun h => ?_) | with_reducible refine Guard_not (fun h => ?_) (fun h => ?_) | with_reducible refine IfB_ndec (fun h => ?_) (fun h => ?_) | with_reducible refine IfB_not (fun h => ?_) (fun h => ?_) | with_reducible refine Guard_split (fun h => ?_) (fun h => ?_) | with_reducible refine IfB_split (fun h => ?_) (fun h => ?_))
    refine append1_enc (E := puE) (x := pushN j y) (OwnE.nils puE H3.length H3) rfl se31 az47 td47 tk31 rfl rfl (by decide) (by show (0 + 1) * 99 ≤ _; omega) (Nat.le_refl _) ?_
    intro pv J op kp hnp
    rw [List.nil_append] at op
    rw [show (AV.nils).blk = none from rfl] at kp
    have hpo := op.one
    have oJ := o5.keep0 kp
    obtain ⟨w4, sl1, vs4, -⟩ := (oJ.vs (by decide)).slice (lo := some (.int .i64 1)) (hi := none) (l := 1) (u := (readN l[j].ns n).length) se34 (abound_nat 1 rfl) rfl (by omega) (Nat.le_refl _)
    have hrow : ((nmE.row (readN l[j].ns n)).drop (1 * nmE.sz)).take (((readN l[j].ns n).length - 1) * nmE.sz) = nmE.row ((readN l[j].ns n).drop 1) := by
      rw [Enc.row_drop, List.take_of_length_le (by rw [Enc.row_length, List.length_drop]; exact Nat.le_refl _)]
    rw [hrow] at vs4
    have hw4 := vs4.one
    have src := asrc_sl tk34 (Vs.sl vs4)
    rw [show (readN l[j].ns n).length - 1 = ((readN l[j].ns n).drop 1).length by rw [List.length_drop]] at src
    have r9J := kp.get r9 (by simp)
    have rrJ := kp.get rr (by simp)
    repeat' (first | simp only [go_sem, Nat.reduceLT, Nat.reduceEqDiff, Nat.reduceAdd, Nat.reduceMul, Nat.reduceSub, Nat.reduceLeDiff, Int.reduceToNat, Int.reduceNeg, Int.reduceLT, Int.reduceLE, Int.reduceEq, reduceCtorEq, Int.natCast_zero, Int.natCast_one, Int.cast_ofNat_Int, Bool.not_not, false_eq_decide, true_eq_decide, hread0, hreadk, read_cons0, read_consk, astore_h0, astore_hk, hget0, hgetk, hset0, hsetk, hlen, hcat, Nat.add_assoc, Nat.add_zero, Nat.zero_add, List.length_append, and_true, true_and, AV.flat, hw3, one_solid hw3, one_cells hw3, hpo, one_solid hpo, one_cells hpo, hw4, one_solid hw4, one_cells hw4, *, -hK, -hns, -o, -hmay, -kG, -kset, -kslow, -hlo, -hH2, -o4, -kk3, -k3, -hn3, -rr, -r9, -hH3, -hrl, -hfl, -o5, -finish, -h17, -hlen, -h0, -hy, -op, -kp, -hnp, -oJ, -vs4, -hrow, -src, -r9J, -rrJ] | with_reducible refine IfB_dec (fun h => ?_) (fun h => ?_) | with_reducible refine Guard_dec (fun h => ?_) (fun h => ?_) | with_reducible refine Guard_ndec (fun h => ?_) (fun h => ?_) | with_reducible refine Guard_not (fun h => ?_) (fun h => ?_) | with_reducible refine IfB_ndec (fun h => ?_) (fun h => ?_) | with_reducible refine IfB_not (fun h => ?_) (fun h => ?_) | with_reducible refine Guard_split (fun h => ?_) (fun h => ?_) | with_reducible refine IfB_split (fun h => ?_) (fun h => ?_))
    refine WX_rows hT hmix [(0, none), (1, none), (2, none), (3, none), (4, some [true, false, false, false]), (5, none), (6, none), (7, some [true, true, true, true, true, true, true])] (by kernel_rfl) ?_
    repeat' (first | simp only [go_sem, Nat.reduceLT, Nat.reduceEqDiff, Nat.reduceAdd, Nat.reduceMul, Nat.reduceSub, Nat.reduceLeDiff, Int.reduceToNat, Int.reduceNeg, Int.reduceLT, Int.reduceLE, Int.reduceEq, reduceCtorEq, Int.natCast_zero, Int.natCast_one, Int.cast_ofNat_Int, Bool.not_not, false_eq_decide, true_eq_decide, hread0, hreadk, read_cons0, read_consk, astore_h0, astore_hk, hget0, hgetk, hset0, hsetk, hlen, hcat, Nat.add_assoc, Nat.add_zero, Nat.zero_add, List.length_append, and_true, true_and, AV.flat, r9J, get_app r9J, read_get r9J, read_app r9J, hw3, one_solid hw3, one_cells hw3, hpo, one_solid hpo, one_cells hpo, hw4, one_solid hw4, one_cells hw4, *, -hK, -hns, -o, -hmay, -kG, -kset, -kslow, -hlo, -hH2, -o4, -kk3, -k3, -hn3, -rr, -r9, -hH3, -hrl, -hfl, -o5, -finish, -h17, -hlen, -h0, -hy, -op, -kp, -hnp, -oJ, -vs4, -hrow, -src, -rrJ] | with_reducible refine IfB_dec (fun h => ?_) (fun h => ?_) | with_reducible refine Guard_dec (fun h => ?_) (fun h => ?_) | with_reducible refine Guard_ndec (fun h => ?_) (fun h => ?_) | with_reducible refine Guard_not (fun h => ?_) (fun h => ?_) | with_reducible refine IfB_ndec (fun h => ?_) (fun h => ?_) | with_reducible refine IfB_not (fun h => ?_) (fun h => ?_) | with_reducible refine Guard_split (fun h => ?_) (fun h => ?_) | with_reducible refine IfB_split (fun h => ?_) (fun h => ?_))
    refine append_enc (E := nmE) (m := J.length) (ys := (readN l[j].ns n).drop 1) (OwnE.nils nmE J.length _) se34 az38 td38 src (by decide) (by show (0 + _) * 50 ≤ _; rw [List.length_drop]; omega) (Nat.le_refl _) ?_
    intro s J2 os k5 hn5
    rw [List.nil_append] at os
    have hso := os.one
    rw [show (AV.nils).blk = none from rfl] at k5
    obtain ⟨st, rest, w1, fin⟩ := finish _ [pushN j y] pv s J J2 kp op os k5 hK
    have hpG := o.lt
    have e1 := TkO.addr (T' := T) (p := p) se22 hj
    have r92 := k5.get r9J (by simp)
    have r93 : (List.set J2 p ⟨row2 (ps.set j (.bool true, s)) ++ rest, 2, st⟩ : Heap)[H1.length]? = some ⟨[.sl p 0 l.length none], 0, .full⟩ := by rw [List.getElem?_set_ne (by omega)]; exact r92
    have rr3 : (List.set J2 p ⟨row2 (ps.set j (.bool true, s)) ++ rest, 2, st⟩ : Heap)[H.length + 2]? = some ⟨[.nils], 0, .full⟩ := by rw [List.getElem?_set_ne (by omega)]; exact k5.get rrJ (by simp)
    repeat' (first | simp only [go_sem, Nat.reduceLT, Nat.reduceEqDiff, Nat.reduceAdd, Nat.reduceMul, Nat.reduceSub, Nat.reduceLeDiff, Int.reduceToNat, Int.reduceNeg, Int.reduceLT, Int.reduceLE, Int.reduceEq, reduceCtorEq, Int.natCast_zero, Int.natCast_one, Int.cast_ofNat_Int, Bool.not_not, false_eq_decide, true_eq_decide, hread0, hreadk, read_cons0, read_consk, astore_h0, astore_hk, hget0, hgetk, hset0, hsetk, hlen, hcat, Nat.add_assoc, Nat.add_zero, Nat.zero_add, List.length_append, and_true, true_and, AV.flat, r9J, get_app r9J, read_get r9J, read_app r9J, r92, get_app r92, read_get r92, read_app r92, r93, get_app r93, read_get r93, read_app r93, rr3, get_app rr3, read_get rr3, read_app rr3, astore_get rr3, astore_app rr3, get_set rr3, get_set_app rr3, read_set rr3, read_set_app rr3, astore_set rr3, astore_set_app rr3, List.set_set, hget0s, hgetks, hread0s, hreadks, List.length_set, hw3, one_solid hw3, one_cells hw3, hso, one_solid hso, one_cells hso, hpo, one_solid hpo, one_cells hpo, hw4, one_solid hw4, one_cells hw4, *, -hK, -hns, -o, -hmay, -kG, -kset, -kslow, -hlo, -hH2, -o4, -kk3, -k3, -hn3, -rr, -r9, -hH3, -hrl, -hfl, -o5, -finish, -h17, -hlen, -h0, -hy, -op, -kp, -hnp, -oJ, -vs4, -hrow, -src, -rrJ, -os, -k5, -hn5, -fin] | with_reducible refine IfB_dec (fun h => ?_) (fun h => ?_) | with_reducible refine Guard_dec (fun h => ?_) (fun h => ?_) | with_reducible refine Guard_ndec (fun h => ?_) (fun h => ?_) | with_reducible refine Guard_not (fun h => ?_) (fun h => ?_) | with_reducible refine IfB_ndec (fun h => ?_) (fun h => ?_) | with_reducible refine IfB_not (fun h => ?_) (fun h => ?_) | with_reducible refine Guard_split (fun h => ?_) (fun h => ?_) | with_reducible refine IfB_split (fun h => ?_) (fun h => ?_))
    exact fin _
theorem refRead_spec (l : List Tk) (i : Int) (n : Nm) (hn : l.length ≤ 140737488355328) (hns : ∀ t ∈ l, t.ns.length ≤ 140737488355328) (H : Heap) :
    WC Try.prog 32 [trAv l, .int .i64 i, n.av] H fun r H' => r = .tup [trAv (trRead l i n).1.1, puE.lst (trRead l i n).1.2, .int .i64 (trRead l i n).2] ∧ H' = H :=
  WC_val fun K hK => (refRead_own l i n hn hns H).mono fun r H' ⟨⟨v, pv, e, o, op⟩, k⟩ => hK r H' (by subst e; exact Thaw.tup_row ⟨Thaw.agg_row ⟨o.thaw, trivial⟩, op.thaw (by decide), .int _ _, trivial⟩) k
end Go.Proofs.Ytccfhighlpfdmaa

