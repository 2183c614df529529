import Derived.Test.YtccfhighlpfdmaaTrkY
set_option linter.unusedSimpArgs false
set_option linter.unusedVariables false
set_option maxRecDepth 100000
set_option maxHeartbeats 4000000
namespace Go.Proofs.Ytccfhighlpfdmaa
open Go Go.Proofs Go.Proofs.PI
theorem PuI.own {L q m : Nat} {H J : Heap} {a b v : AV} {P Q : List Pu} {xs : List Nm} (h : PuI L q none H a J b P) (hq : PuS L q H a Q) (hv : OwnE nmE m H v xs) (hvL : ∀ b, v.blk = some b → b < L) (hLH : L ≤ H.length) : OwnE nmE m J v xs := by
  rcases hv with hv | ⟨b, n, st, rest, rfl, q1, q2, q3⟩
  · exact .inl hv
  · have hb := hvL b rfl
    refine .inr ⟨b, n, st, rest, rfl, q1, ?_, q3⟩
    rw [h.fr b (by omega) (by have := hq.ge; omega) (fun e => by have := hq.own.ge e; omega) (by simp)]; exact q2
theorem nDelP (L q bc bi : Nat) (c : Chg) (i : Nat) (m : Nat) (v : AV) (xs : List Nm) (H : Heap) (pv : AV) (P : List Pu) (hn : xs.length ≤ 1000) (hv : OwnE nmE m H v xs) (hvL : ∀ b, v.blk = some b → b < L) (hpu : PuS L q H pv P)
    (hc : H[bc]? = some ⟨c.cs, 0, .full⟩) (hi : H[bi]? = some ⟨[.int .i64 i], 0, .full⟩) (hne : bc ≠ q ∧ bi ≠ q ∧ pv.blk ≠ some bc ∧ pv.blk ≠ some bi) (hLb : L ≤ bc ∧ L ≤ bi) (hLH : L ≤ H.length) (hP : P.length + xs.length ≤ 1000000) :
    WC Try.prog 42 [v, .fn 43 [] [.ptr bc 0, .ptr q 0, .ptr bi 0]] H fun r H' => ∃ pv', OwnE nmE m H' r (xs.filter fun x => !tkHit c x) ∧ r.blk = v.blk ∧ PuI L q v.blk H pv H' pv' (P ++ pushT c i xs) := by
  refine WC_of_K fun K hK => ?_
  refine WC_of_body hT Try.func42 rfl (by simp [Try.f42]) (by simp [Try.f42]) (wx_sound hT _ ?_)
  simp only [Try.f42]
  have ci := nmIdxP L q bc bi c i m v xs H pv P hn hv hvL hpu hc hi hne hLH hP
  repeat' (first | simp only [go_sem, Nat.reduceLT, Nat.reduceEqDiff, Nat.reduceAdd, Nat.reduceMul, Nat.reduceSub, Nat.reduceLeDiff, Int.reduceToNat, Int.reduceNeg, Int.reduceLT, Int.reduceLE, Int.reduceEq, reduceCtorEq, Int.natCast_zero, Int.natCast_one, Int.cast_ofNat_Int, Bool.not_not, false_eq_decide, true_eq_decide, hread0, hreadk, read_cons0, read_consk, astore_h0, astore_hk, hget0, hgetk, hset0, hsetk, hlen, hcat, Nat.add_assoc, Nat.add_zero, Nat.zero_add, List.length_append, and_true, true_and, AV.flat, *, -hK, -hv, -hvL, -hpu, -hc, -hi, -hne, -hLb, -ci] | with_reducible refine IfB_dec (fun h => ?_) (fun h => ?_) | with_reducible refine Guard_dec (fun h => ?_) (fun h => ?_) | with_reducible refine Guard_ndec (fun h => ?_) (fun h => ?_) | with_reducible refine Guard_not (fun h => ?_) (fun h => ?_) | with_reducible refine IfB_ndec (fun h => ?_) (fun h => ?_) | with_reducible refine IfB_not (fun h => ?_) (fun h => ?_) | with_reducible refine Guard_split (fun h => ?_) (fun h => ?_) | with_reducible refine IfB_split (fun h => ?_) (fun h => ?_))
  refine ci.mono ?_
  rintro r H1 ⟨p1, rfl, hI1⟩
  clear ci
  have hv1 := hI1.own hpu hv hvL hLH
  cases hf : xs.findIdx? (tkHit c) with
  | none =>
    rw [hf] at hI1
    rw [List.findIdx?_eq_none_iff] at hf
    have hfil : xs.filter (fun x => !tkHit c x) = xs := by
      rw [List.filter_eq_self]; intro x hx; simp [hf x hx]
    rw [hfil] at hK
    simp only [idxI, List.take_length] at hI1 ⊢
    repeat' (first | simp only [go_sem, Nat.reduceLT, Nat.reduceEqDiff, Nat.reduceAdd, Nat.reduceMul, Nat.reduceSub, Nat.reduceLeDiff, Int.reduceToNat, Int.reduceNeg, Int.reduceLT, Int.reduceLE, Int.reduceEq, reduceCtorEq, Int.natCast_zero, Int.natCast_one, Int.cast_ofNat_Int, Bool.not_not, false_eq_decide, true_eq_decide, hread0, hreadk, read_cons0, read_consk, astore_h0, astore_hk, hget0, hgetk, hset0, hsetk, hlen, hcat, Nat.add_assoc, Nat.add_zero, Nat.zero_add, List.length_append, and_true, true_and, AV.flat, *, -hK, -hv, -hvL, -hpu, -hc, -hi, -hne, -hLb, -hI1, -hv1, -hf, -hfil] | with_reducible refine IfB_dec (fun h => ?_) (fun h => ?_) | with_reducible refine Guard_dec (fun h => ?_) (fun h => ?_) | with_reducible refine Guard_ndec (fun h => ?_) (fun h => ?_) | with_reducible refine Guard_not (fun h => ?_) (fun h => ?_) | with_reducible refine IfB_ndec (fun h => ?_) (fun h => ?_) | with_reducible refine IfB_not (fun h => ?_) (fun h => ?_) | with_reducible refine Guard_split (fun h => ?_) (fun h => ?_) | with_reducible refine IfB_split (fun h => ?_) (fun h => ?_))
    exact hK _ _ ⟨p1, hv1, rfl, hI1.weak⟩
  | some i0 =>
  rw [hf] at hI1
  simp only [idxI] at hI1 ⊢
  obtain ⟨hlt0, hp0, hno0⟩ := List.findIdx?_eq_some_iff_getElem.1 hf
  have htk : (xs.take i0).filter (fun x => !tkHit c x) = xs.take i0 := by
    rw [List.filter_eq_self]; intro x hx
    obtain ⟨j, hj, rfl⟩ := List.getElem_of_mem hx
    rw [List.length_take] at hj
    rw [List.getElem_take]; simpa using hno0 j (by omega)
  have htk1 : (xs.take (i0 + 1)).filter (fun x => !tkHit c x) = xs.take i0 := by
    rw [List.take_succ_eq_append_getElem hlt0, List.filter_append, htk]; simp [hp0]
  have e9 : IntKind.i64.wrap ((i0 : Int) + 1) = ((i0 + 1 : Nat) : Int) := inc_id hlt0 (by omega)
  have hm1 : ¬ (i0 : Int) = -1 := by omega
  clear hno0 hp0 htk hf
  repeat' (first | simp only [go_sem, Nat.reduceLT, Nat.reduceEqDiff, Nat.reduceAdd, Nat.reduceMul, Nat.reduceSub, Nat.reduceLeDiff, Int.reduceToNat, Int.reduceNeg, Int.reduceLT, Int.reduceLE, Int.reduceEq, reduceCtorEq, Int.natCast_zero, Int.natCast_one, Int.cast_ofNat_Int, Bool.not_not, false_eq_decide, true_eq_decide, hread0, hreadk, read_cons0, read_consk, astore_h0, astore_hk, hget0, hgetk, hset0, hsetk, hlen, hcat, Nat.add_assoc, Nat.add_zero, Nat.zero_add, List.length_append, and_true, true_and, AV.flat, *, -hK, -hv, -hvL, -hpu, -hc, -hi, -hne, -hLb, -hI1, -hv1, -htk1] | with_reducible refine IfB_dec (fun h => ?_) (fun h => ?_) | with_reducible refine Guard_dec (fun h => ?_) (fun h => ?_) | with_reducible refine Guard_ndec (fun h => ?_) (fun h => ?_) | with_reducible refine Guard_not (fun h => ?_) (fun h => ?_) | with_reducible refine IfB_ndec (fun h => ?_) (fun h => ?_) | with_reducible refine IfB_not (fun h => ?_) (fun h => ?_) | with_reducible refine Guard_split (fun h => ?_) (fun h => ?_) | with_reducible refine IfB_split (fun h => ?_) (fun h => ?_))
  refine WX_loopS [0, 1] (fun k fr' J => ∃ (a j : Nat) (ys : List Nm) (pw : AV), k = xs.length - j ∧ a < j ∧ j ≤ xs.length ∧ fr'.get 5 = .int .i64 a ∧ fr'.get 6 = .int .i64 j ∧ ys.length = xs.length ∧ OwnE nmE m J v ys ∧ ys.take a = (xs.take j).filter (fun x => !tkHit c x) ∧ ys.drop j = xs.drop j ∧ PuI L q v.blk H pv J pw (P ++ pushT c i (xs.take j))) (xs.length - (i0 + 1)) ⟨i0, i0 + 1, xs, p1, rfl, by omega, by omega, by simp only [go_sem, Nat.reduceLT, Nat.reduceEqDiff, Nat.reduceAdd, Nat.reduceMul, Nat.reduceSub, Nat.reduceLeDiff, Int.reduceToNat, Int.reduceNeg, Int.reduceLT, Int.reduceLE, Int.reduceEq, reduceCtorEq], by simp only [go_sem, Nat.reduceLT, Nat.reduceEqDiff, Nat.reduceAdd, Nat.reduceMul, Nat.reduceSub, Nat.reduceLeDiff, Int.reduceToNat, Int.reduceNeg, Int.reduceLT, Int.reduceLE, Int.reduceEq, reduceCtorEq], rfl, hv1, htk1.symm, rfl, hI1.weak⟩ ?_
  clear hI1 hv1 htk1 e9 hm1
  rintro k fr' J A R hA hs hg hR ⟨a, j, ys, pw, rfl, haj, hj, f5, f6, hyl, hys, hyt, hyd, hI⟩
  have s0 := hg 0 (by decide)
  have s1 := hg 1 (by decide)
  simp only [Fr.get_put, Fr.get_init, List.getD_cons_zero, List.getD_cons_succ, Nat.reduceEqDiff, if_true, if_false] at s0 s1
  have e0 := hys.alen (by decide) tk34
  rw [hyl] at e0
  refine wx_sound hT _ ?_
  by_cases hlt : j < xs.length
  rotate_left
  · have i1 : ¬ (j : Int) < xs.length := by omega
    have hjn : j = xs.length := by omega
    rw [hjn, List.take_length] at hyt hI
    obtain ⟨v1, H2, v2, c1, c2, c3, c4, c5, c6⟩ := hys.clear (by decide) se34 (i := a) (by omega) (k := .i64) rfl az38 rfl
    repeat' (first | simp only [go_sem, Nat.reduceLT, Nat.reduceEqDiff, Nat.reduceAdd, Nat.reduceMul, Nat.reduceSub, Nat.reduceLeDiff, Int.reduceToNat, Int.reduceNeg, Int.reduceLT, Int.reduceLE, Int.reduceEq, reduceCtorEq, Int.natCast_zero, Int.natCast_one, Int.cast_ofNat_Int, Bool.not_not, false_eq_decide, true_eq_decide, hread0, hreadk, read_cons0, read_consk, astore_h0, astore_hk, hget0, hgetk, hset0, hsetk, hlen, hcat, Nat.add_assoc, Nat.add_zero, Nat.zero_add, List.length_append, and_true, true_and, AV.flat, *, -hK, -hyt, -hyd, -hyl, -hys, -hI, -hpu, -hv, -hvL, -hc, -hi, -hne, -hLb, -hjn, -c3, -c5, -c6] | with_reducible refine IfB_dec (fun h => ?_) (fun h => ?_) | with_reducible refine Guard_dec (fun h => ?_) (fun h => ?_) | with_reducible refine Guard_ndec (fun h => ?_) (fun h => ?_) | with_reducible refine Guard_not (fun h => ?_) (fun h => ?_) | with_reducible refine IfB_ndec (fun h => ?_) (fun h => ?_) | with_reducible refine IfB_not (fun h => ?_) (fun h => ?_) | with_reducible refine Guard_split (fun h => ?_) (fun h => ?_) | with_reducible refine IfB_split (fun h => ?_) (fun h => ?_))
    exact hK _ _ ⟨pw, by rw [← hyt]; exact c5, c6, hI.trans (PuI.keep hI.st c3 hvL)⟩
  have i1 : (j : Int) < xs.length := by omega
  have hlt' : j < ys.length := by omega
  have hyj : ys[j] = xs[j] := by
    have h1 := congrArg (fun l => l[0]?) hyd
    simp only [List.getElem?_drop, Nat.add_zero] at h1
    rw [List.getElem?_eq_getElem hlt', List.getElem?_eq_getElem hlt] at h1
    simpa using h1
  obtain ⟨b, o, e1, e2, hbk⟩ := hys.at_ (by decide) se34 hlt' (k := .i64) rfl
  rw [show nmE.sz = 2 from rfl, hyj, nmE_cells] at e2
  have e3 := inc_id hlt (show xs.length ≤ 140737488355328 by omega)
  have e4 := inc_id (show a < xs.length by omega) (show xs.length ≤ 140737488355328 by omega)
  have hst := pushT_step (c := c) (i := i) hlt
  have hpl := pushT_len c i (xs.take j)
  have hcl := (List.getElem?_eq_some_iff.1 hc).1
  have hil := (List.getElem?_eq_some_iff.1 hi).1
  have hcJ : J[bc]? = some ⟨c.cs, 0, .full⟩ := by rw [hI.fr bc hcl hne.1 hne.2.2.1 (fun e => by have := hvL _ e; omega)]; exact hc
  have hiJ : J[bi]? = some ⟨[.int .i64 i], 0, .full⟩ := by rw [hI.fr bi hil hne.2.1 hne.2.2.2 (fun e => by have := hvL _ e; omega)]; exact hi
  have hJl := hI.len
  have hJ1 : PuI L q v.blk J pw (J ++ [(⟨nmE.cells xs[j], 0, .full⟩ : Blk)]) pw (P ++ pushT c i (xs.take j)) := PuI.keep hI.st (Keep.weak (Keep.app none _ _)) hvL
  have cl := chgF_spec L q bc bi c i xs[j] (J ++ [(⟨nmE.cells xs[j], 0, .full⟩ : Blk)]) pw _ hJ1.st (get_app hcJ _) (get_app hiJ _) (by simp; omega) (by rw [List.length_append]; rw [List.length_take] at hpl; omega)
  rw [List.append_assoc, ← hst] at cl
  have hys1 := hys.keep0 (Keep.app none J [(⟨nmE.cells xs[j], 0, .full⟩ : Blk)])
  have hbx : (J ++ [(⟨nmE.cells xs[j], 0, .full⟩ : Blk)] : Heap)[J.length]? = some ⟨[.int .i64 xs[j].ten, .str xs[j].key], 0, .full⟩ := by simp; rfl
  have hstay : ∀ (pz : AV) (J2 : Heap) Q, PuI L q none (J ++ [(⟨nmE.cells xs[j], 0, .full⟩ : Blk)]) pw J2 pz Q → J2[J.length]? = some ⟨[.int .i64 xs[j].ten, .str xs[j].key], 0, .full⟩ := fun pz J2 Q h => by
    rw [h.fr _ (by simp) (fun e => by have := (List.getElem?_eq_some_iff.1 hI.st.box).1; omega) (fun e => by have := hI.st.own.lt e; omega) (by simp)]; exact hbx
  have hwhole : ∀ (pz : AV) (J2 : Heap), PuI L q none (J ++ [(⟨nmE.cells xs[j], 0, .full⟩ : Blk)]) pw J2 pz (P ++ pushT c i (xs.take (j + 1))) → PuI L q v.blk H pv J2 pz (P ++ pushT c i (xs.take (j + 1))) := fun pz J2 h => (hI.trans hJ1).trans h.weak
  have hown : ∀ (pz : AV) (J2 : Heap) Q, PuI L q none (J ++ [(⟨nmE.cells xs[j], 0, .full⟩ : Blk)]) pw J2 pz Q → OwnE nmE m J2 v ys := fun pz J2 Q h => h.own hJ1.st hys1 hvL (by simp; omega)
  have hfs : (xs.take (j + 1)).filter (fun x => !tkHit c x) = ys.take a ++ (if tkHit c xs[j] = true then [] else [xs[j]]) := by
    rw [List.take_succ_eq_append_getElem hlt, List.filter_append, ← hyt]
    congr 1
    cases hh : tkHit c xs[j] <;> simp [hh]
  have hdd : ys.drop (j + 1) = xs.drop (j + 1) := by rw [← List.drop_drop, hyd, List.drop_drop]
  rw [nmE_cells] at hstay hwhole hown hbx cl
  clear hst hpl hcl hil hcJ hiJ hJ1 hI hys1 hyj hbx
  cases hh : tkHit c xs[j] with
  | true =>
    rw [hh] at cl
    rw [hh, if_pos rfl, List.append_nil] at hfs
    have back : ∀ fr2 J2 pz, A fr2 → fr2.get 5 = .int .i64 a → fr2.get 6 = .int .i64 ((j + 1 : Nat) : Int) → OwnE nmE m J2 v ys → PuI L q v.blk H pv J2 pz (P ++ pushT c i (xs.take (j + 1))) → R fr2 J2 := fun fr2 J2 pz ha q1 q2 q3 q4 => hR fr2 J2 ha (xs.length - (j + 1)) (by omega) ⟨a, j + 1, ys, pz, rfl, by omega, by omega, q1, q2, hyl, q3, hfs.symm, hdd, q4⟩
    clear hR
    unfold Nm.av at cl
    repeat' (first | simp only [go_sem, Nat.reduceLT, Nat.reduceEqDiff, Nat.reduceAdd, Nat.reduceMul, Nat.reduceSub, Nat.reduceLeDiff, Int.reduceToNat, Int.reduceNeg, Int.reduceLT, Int.reduceLE, Int.reduceEq, reduceCtorEq, Int.natCast_zero, Int.natCast_one, Int.cast_ofNat_Int, Bool.not_not, false_eq_decide, true_eq_decide, hread0, hreadk, read_cons0, read_consk, astore_h0, astore_hk, hget0, hgetk, hset0, hsetk, hlen, hcat, Nat.add_assoc, Nat.add_zero, Nat.zero_add, List.length_append, and_true, true_and, AV.flat, *, -hK, -hyt, -hyd, -hyl, -hys, -hpu, -hv, -hvL, -hc, -hi, -hne, -hLb, -hstay, -hwhole, -hown, -hfs, -hdd, -cl, -hh, -back, -hbk] | with_reducible refine IfB_dec (fun h => ?_) (fun h => ?_) | with_reducible refine Guard_dec (fun h => ?_) (fun h => ?_) | with_reducible refine Guard_ndec (fun h => ?_) (fun h => ?_) | with_reducible refine Guard_not (fun h => ?_) (fun h => ?_) | with_reducible refine IfB_ndec (fun h => ?_) (fun h => ?_) | with_reducible refine IfB_not (fun h => ?_) (fun h => ?_) | with_reducible refine Guard_split (fun h => ?_) (fun h => ?_) | with_reducible refine IfB_split (fun h => ?_) (fun h => ?_))
    refine cl.mono ?_
    rintro r H2 ⟨pz, rfl, hI2⟩
    repeat' (first | simp only [go_sem, Nat.reduceLT, Nat.reduceEqDiff, Nat.reduceAdd, Nat.reduceMul, Nat.reduceSub, Nat.reduceLeDiff, Int.reduceToNat, Int.reduceNeg, Int.reduceLT, Int.reduceLE, Int.reduceEq, reduceCtorEq, Int.natCast_zero, Int.natCast_one, Int.cast_ofNat_Int, Bool.not_not, false_eq_decide, true_eq_decide, hread0, hreadk, read_cons0, read_consk, astore_h0, astore_hk, hget0, hgetk, hset0, hsetk, hlen, hcat, Nat.add_assoc, Nat.add_zero, Nat.zero_add, List.length_append, and_true, true_and, AV.flat, *, -hK, -hyt, -hyd, -hyl, -hys, -hpu, -hv, -hvL, -hc, -hi, -hne, -hLb, -hstay, -hwhole, -hown, -hfs, -hdd, -cl, -hh, -back, -hbk, -hI2] | with_reducible refine IfB_dec (fun h => ?_) (fun h => ?_) | with_reducible refine Guard_dec (fun h => ?_) (fun h => ?_) | with_reducible refine Guard_ndec (fun h => ?_) (fun h => ?_) | with_reducible refine Guard_not (fun h => ?_) (fun h => ?_) | with_reducible refine IfB_ndec (fun h => ?_) (fun h => ?_) | with_reducible refine IfB_not (fun h => ?_) (fun h => ?_) | with_reducible refine Guard_split (fun h => ?_) (fun h => ?_) | with_reducible refine IfB_split (fun h => ?_) (fun h => ?_))
    exact back _ _ pz (by (repeat (first | exact hs | refine hA _ _ _ (by decide) ?_))) (by simp only [go_sem, Nat.reduceLT, Nat.reduceEqDiff, Nat.reduceAdd, Nat.reduceMul, Nat.reduceSub, Nat.reduceLeDiff, Int.reduceToNat, Int.reduceNeg, Int.reduceLT, Int.reduceLE, Int.reduceEq, reduceCtorEq, f5]) (by simp only [go_sem, Nat.reduceLT, Nat.reduceEqDiff, Nat.reduceAdd, Nat.reduceMul, Nat.reduceSub, Nat.reduceLeDiff, Int.reduceToNat, Int.reduceNeg, Int.reduceLT, Int.reduceLE, Int.reduceEq, reduceCtorEq]) (hown _ _ _ hI2) (hwhole _ _ hI2)
  | false =>
    rw [hh] at cl
    rw [hh, if_neg (by decide)] at hfs
    have back : ∀ fr2 J2 pz, A fr2 → fr2.get 5 = .int .i64 ((a + 1 : Nat) : Int) → fr2.get 6 = .int .i64 ((j + 1 : Nat) : Int) → OwnE nmE m J2 v (ys.set a xs[j]) → PuI L q v.blk H pv J2 pz (P ++ pushT c i (xs.take (j + 1))) → R fr2 J2 := fun fr2 J2 pz ha q1 q2 q3 q4 => hR fr2 J2 ha (xs.length - (j + 1)) (by omega) ⟨a + 1, j + 1, ys.set a xs[j], pz, rfl, by omega, by omega, q1, q2, by rw [List.length_set, hyl], q3, by
      rw [hfs, List.take_succ_eq_append_getElem (by rw [List.length_set]; omega), List.getElem_set_self, List.take_set_of_le (Nat.le_refl _)], by rw [List.drop_set_of_lt (by omega), hdd], q4⟩
    clear hR
    unfold Nm.av at cl
    repeat' (first | simp only [go_sem, Nat.reduceLT, Nat.reduceEqDiff, Nat.reduceAdd, Nat.reduceMul, Nat.reduceSub, Nat.reduceLeDiff, Int.reduceToNat, Int.reduceNeg, Int.reduceLT, Int.reduceLE, Int.reduceEq, reduceCtorEq, Int.natCast_zero, Int.natCast_one, Int.cast_ofNat_Int, Bool.not_not, false_eq_decide, true_eq_decide, hread0, hreadk, read_cons0, read_consk, astore_h0, astore_hk, hget0, hgetk, hset0, hsetk, hlen, hcat, Nat.add_assoc, Nat.add_zero, Nat.zero_add, List.length_append, and_true, true_and, AV.flat, *, -hK, -hyt, -hyd, -hyl, -hys, -hpu, -hv, -hvL, -hc, -hi, -hne, -hLb, -hstay, -hwhole, -hown, -hfs, -hdd, -cl, -hh, -back, -hbk] | with_reducible refine IfB_dec (fun h => ?_) (fun h => ?_) | with_reducible refine Guard_dec (fun h => ?_) (fun h => ?_) | with_reducible refine Guard_ndec (fun h => ?_) (fun h => ?_) | with_reducible refine Guard_not (fun h => ?_) (fun h => ?_) | with_reducible refine IfB_ndec (fun h => ?_) (fun h => ?_) | with_reducible refine IfB_not (fun h => ?_) (fun h => ?_) | with_reducible refine Guard_split (fun h => ?_) (fun h => ?_) | with_reducible refine IfB_split (fun h => ?_) (fun h => ?_))
    refine cl.mono ?_
    rintro r H2 ⟨pz, rfl, hI2⟩
    have hbx2 := hstay _ _ _ hI2
    have hy2 := hown _ _ _ hI2
    have hI3 := hwhole _ _ hI2
    obtain ⟨b', o', H3, q1, q2, q3, q4, q5⟩ := hy2.set (by decide) se34 (i := a) (by omega) (k := .i64) rfl (te := 38) (by simp only [asize, td38, Option.map_some]; rfl) (x := xs[j]) (a := Nm.av xs[j]) rfl rfl
    unfold Nm.av at q2
    repeat' (first | simp only [go_sem, Nat.reduceLT, Nat.reduceEqDiff, Nat.reduceAdd, Nat.reduceMul, Nat.reduceSub, Nat.reduceLeDiff, Int.reduceToNat, Int.reduceNeg, Int.reduceLT, Int.reduceLE, Int.reduceEq, reduceCtorEq, Int.natCast_zero, Int.natCast_one, Int.cast_ofNat_Int, Bool.not_not, false_eq_decide, true_eq_decide, hread0, hreadk, read_cons0, read_consk, astore_h0, astore_hk, hget0, hgetk, hset0, hsetk, hlen, hcat, Nat.add_assoc, Nat.add_zero, Nat.zero_add, List.length_append, and_true, true_and, AV.flat, hbx2, get_app hbx2, read_get hbx2, read_app hbx2, *, -hK, -hyt, -hyd, -hyl, -hys, -hpu, -hv, -hvL, -hc, -hi, -hne, -hLb, -hstay, -hwhole, -hown, -hfs, -hdd, -cl, -hh, -back, -hbk, -hI2, -hI3, -hy2, -q3, -q4, -q5] | with_reducible refine IfB_dec (fun h => ?_) (fun h => ?_) | with_reducible refine Guard_dec (fun h => ?_) (fun h => ?_) | with_reducible refine Guard_ndec (fun h => ?_) (fun h => ?_) | with_reducible refine Guard_not (fun h => ?_) (fun h => ?_) | with_reducible refine IfB_ndec (fun h => ?_) (fun h => ?_) | with_reducible refine IfB_not (fun h => ?_) (fun h => ?_) | with_reducible refine Guard_split (fun h => ?_) (fun h => ?_) | with_reducible refine IfB_split (fun h => ?_) (fun h => ?_))
    exact back _ _ pz (by (repeat (first | exact hs | refine hA _ _ _ (by decide) ?_))) (by simp only [go_sem, Nat.reduceLT, Nat.reduceEqDiff, Nat.reduceAdd, Nat.reduceMul, Nat.reduceSub, Nat.reduceLeDiff, Int.reduceToNat, Int.reduceNeg, Int.reduceLT, Int.reduceLE, Int.reduceEq, reduceCtorEq]) (by simp only [go_sem, Nat.reduceLT, Nat.reduceEqDiff, Nat.reduceAdd, Nat.reduceMul, Nat.reduceSub, Nat.reduceLeDiff, Int.reduceToNat, Int.reduceNeg, Int.reduceLT, Int.reduceLE, Int.reduceEq, reduceCtorEq]) q3 (hI3.trans (PuI.keep hI3.st (by rw [q5]; exact q4) hvL))
end Go.Proofs.Ytccfhighlpfdmaa

