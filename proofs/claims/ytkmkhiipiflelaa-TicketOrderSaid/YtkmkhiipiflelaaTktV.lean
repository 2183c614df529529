import Derived.Test.YtkmkhiipiflelaaTktU
set_option linter.unusedSimpArgs false
set_option linter.unusedVariables false
set_option maxRecDepth 100000
set_option maxHeartbeats 2000000
namespace Go.Proofs.Ytkmkhiipiflelaa
open Go Go.Proofs Go.Proofs.PI
theorem queE_bad {q : Que} (h : ¬ q.may) : queE q = 8 := by unfold queE; rw [if_neg h]
theorem queE_ok {q : Que} (h : q.may) : queE q = 0 := by unfold queE; rw [if_pos h]
theorem tcheck_spec (q : Que) (hb : qFit q.bx) (H : Heap) : WC Try.prog 26 [q.av] H fun r H' => r = .int .i64 (queE q) ∧ H' = H := by
  refine WC_val fun K hK => ?_
  obtain ⟨nx, bs⟩ := q
  have hb1 := hb.1
  have hb2 := hb.2
  simp only at hb1 hb2
  by_cases hl : 1 ≤ bs.length ∧ bs.length ≤ 4
  rotate_left
  · rw [queE_bad fun h => hl ⟨h.1, h.2.1⟩] at hK
    unfold Que.av
    by_cases i1 : (bs.length : Int) < 1
    · skip
      refine WC_of_body hT Try.func26 rfl (by simp [Try.f26]) (by simp [Try.f26]) (wx_sound hT _ ?_)
      simp only [Try.f26]
      repeat' (first | simp only [go_sem, Nat.reduceLT, Nat.reduceEqDiff, Nat.reduceAdd, Nat.reduceMul, Nat.reduceSub, Nat.reduceLeDiff, Int.reduceToNat, Int.reduceNeg, Int.reduceLT, Int.reduceLE, Int.reduceEq, reduceCtorEq, Int.natCast_zero, Int.natCast_one, Int.cast_ofNat_Int, Bool.not_not, false_eq_decide, true_eq_decide, hread0, hreadk, read_cons0, read_consk, astore_h0, astore_hk, hget0, hgetk, hset0, hsetk, hlen, hcat, Nat.add_assoc, Nat.add_zero, Nat.zero_add, List.length_append, and_true, true_and, AV.flat, *, -hK, -hl, -hb2, -hb] | with_reducible refine IfB_dec (fun h => ?_) (fun h => ?_) | with_reducible refine Guard_dec (fun h => ?_) (fun h => ?_) | with_reducible refine Guard_ndec (fun h => ?_) (fun h => ?_) | with_reducible refine Guard_not (fun h => ?_) (fun h => ?_) | with_reducible refine IfB_ndec (fun h => ?_) (fun h => ?_) | with_reducible refine IfB_not (fun h => ?_) (fun h => ?_) | with_reducible refine Guard_split (fun h => ?_) (fun h => ?_) | with_reducible refine IfB_split (fun h => ?_) (fun h => ?_))
      exact hK _ _ (.int _ _) (Keep.app _ _ _)
    · have i2 : (bs.length : Int) > 4 := by omega
      refine WC_of_body hT Try.func26 rfl (by simp [Try.f26]) (by simp [Try.f26]) (wx_sound hT _ ?_)
      simp only [Try.f26]
      repeat' (first | simp only [go_sem, Nat.reduceLT, Nat.reduceEqDiff, Nat.reduceAdd, Nat.reduceMul, Nat.reduceSub, Nat.reduceLeDiff, Int.reduceToNat, Int.reduceNeg, Int.reduceLT, Int.reduceLE, Int.reduceEq, reduceCtorEq, Int.natCast_zero, Int.natCast_one, Int.cast_ofNat_Int, Bool.not_not, false_eq_decide, true_eq_decide, hread0, hreadk, read_cons0, read_consk, astore_h0, astore_hk, hget0, hgetk, hset0, hsetk, hlen, hcat, Nat.add_assoc, Nat.add_zero, Nat.zero_add, List.length_append, and_true, true_and, AV.flat, *, -hK, -hl, -hb2, -hb] | with_reducible refine IfB_dec (fun h => ?_) (fun h => ?_) | with_reducible refine Guard_dec (fun h => ?_) (fun h => ?_) | with_reducible refine Guard_ndec (fun h => ?_) (fun h => ?_) | with_reducible refine Guard_not (fun h => ?_) (fun h => ?_) | with_reducible refine IfB_ndec (fun h => ?_) (fun h => ?_) | with_reducible refine IfB_not (fun h => ?_) (fun h => ?_) | with_reducible refine Guard_split (fun h => ?_) (fun h => ?_) | with_reducible refine IfB_split (fun h => ?_) (fun h => ?_))
      exact hK _ _ (.int _ _) (Keep.app _ _ _)
  have i1 : ¬ (bs.length : Int) < 1 := by omega
  have i2 : ¬ (bs.length : Int) > 4 := by omega
  by_cases i3 : nx < 0
  · rw [queE_bad fun h => by have := h.2.2.1; simp only at this; omega] at hK
    unfold Que.av
    refine WC_of_body hT Try.func26 rfl (by simp [Try.f26]) (by simp [Try.f26]) (wx_sound hT _ ?_)
    simp only [Try.f26]
    repeat' (first | simp only [go_sem, Nat.reduceLT, Nat.reduceEqDiff, Nat.reduceAdd, Nat.reduceMul, Nat.reduceSub, Nat.reduceLeDiff, Int.reduceToNat, Int.reduceNeg, Int.reduceLT, Int.reduceLE, Int.reduceEq, reduceCtorEq, Int.natCast_zero, Int.natCast_one, Int.cast_ofNat_Int, Bool.not_not, false_eq_decide, true_eq_decide, hread0, hreadk, read_cons0, read_consk, astore_h0, astore_hk, hget0, hgetk, hset0, hsetk, hlen, hcat, Nat.add_assoc, Nat.add_zero, Nat.zero_add, List.length_append, and_true, true_and, AV.flat, *, -hK, -hl, -hb2, -hb] | with_reducible refine IfB_dec (fun h => ?_) (fun h => ?_) | with_reducible refine Guard_dec (fun h => ?_) (fun h => ?_) | with_reducible refine Guard_ndec (fun h => ?_) (fun h => ?_) | with_reducible refine Guard_not (fun h => ?_) (fun h => ?_) | with_reducible refine IfB_ndec (fun h => ?_) (fun h => ?_) | with_reducible refine IfB_not (fun h => ?_) (fun h => ?_) | with_reducible refine Guard_split (fun h => ?_) (fun h => ?_) | with_reducible refine IfB_split (fun h => ?_) (fun h => ?_))
    exact hK _ _ (.int _ _) (Keep.app _ _ _)
  by_cases i4 : nx > 1099511627776
  · rw [queE_bad fun h => by have := h.2.2.2.1; simp only at this; omega] at hK
    unfold Que.av
    refine WC_of_body hT Try.func26 rfl (by simp [Try.f26]) (by simp [Try.f26]) (wx_sound hT _ ?_)
    simp only [Try.f26]
    repeat' (first | simp only [go_sem, Nat.reduceLT, Nat.reduceEqDiff, Nat.reduceAdd, Nat.reduceMul, Nat.reduceSub, Nat.reduceLeDiff, Int.reduceToNat, Int.reduceNeg, Int.reduceLT, Int.reduceLE, Int.reduceEq, reduceCtorEq, Int.natCast_zero, Int.natCast_one, Int.cast_ofNat_Int, Bool.not_not, false_eq_decide, true_eq_decide, hread0, hreadk, read_cons0, read_consk, astore_h0, astore_hk, hget0, hgetk, hset0, hsetk, hlen, hcat, Nat.add_assoc, Nat.add_zero, Nat.zero_add, List.length_append, and_true, true_and, AV.flat, *, -hK, -hl, -hb2, -hb] | with_reducible refine IfB_dec (fun h => ?_) (fun h => ?_) | with_reducible refine Guard_dec (fun h => ?_) (fun h => ?_) | with_reducible refine Guard_ndec (fun h => ?_) (fun h => ?_) | with_reducible refine Guard_not (fun h => ?_) (fun h => ?_) | with_reducible refine IfB_ndec (fun h => ?_) (fun h => ?_) | with_reducible refine IfB_not (fun h => ?_) (fun h => ?_) | with_reducible refine Guard_split (fun h => ?_) (fun h => ?_) | with_reducible refine IfB_split (fun h => ?_) (fun h => ?_))
    exact hK _ _ (.int _ _) (Keep.app _ _ _)
  have hbad : ∀ l ∈ bs, ¬ (l.length ≤ 256 ∧ boxB bs nx (-1) l = true) → queE ⟨nx, bs⟩ = 8 := fun l hm h => queE_bad fun hq => h (hq.2.2.2.2 l hm)
  have wh := fun (t : Tkt) J => where_spec ⟨nx, bs⟩ t hb J
  unfold Que.av at *
  simp only at wh ⊢
  refine WC_of_body hT Try.func26 rfl (by simp [Try.f26]) (by simp [Try.f26]) (wx_sound hT _ ?_)
  simp only [Try.f26]
  repeat' (first | simp only [go_sem, Nat.reduceLT, Nat.reduceEqDiff, Nat.reduceAdd, Nat.reduceMul, Nat.reduceSub, Nat.reduceLeDiff, Int.reduceToNat, Int.reduceNeg, Int.reduceLT, Int.reduceLE, Int.reduceEq, reduceCtorEq, Int.natCast_zero, Int.natCast_one, Int.cast_ofNat_Int, Bool.not_not, false_eq_decide, true_eq_decide, hread0, hreadk, read_cons0, read_consk, astore_h0, astore_hk, hget0, hgetk, hset0, hsetk, hlen, hcat, Nat.add_assoc, Nat.add_zero, Nat.zero_add, List.length_append, and_true, true_and, AV.flat, *, -hK, -hl, -hb2, -hb, -hbad, -wh] | with_reducible refine IfB_dec (fun h => ?_) (fun h => ?_) | with_reducible refine Guard_dec (fun h => ?_) (fun h => ?_) | with_reducible refine Guard_ndec (fun h => ?_) (fun h => ?_) | with_reducible refine Guard_not (fun h => ?_) (fun h => ?_) | with_reducible refine IfB_ndec (fun h => ?_) (fun h => ?_) | with_reducible refine IfB_not (fun h => ?_) (fun h => ?_) | with_reducible refine Guard_split (fun h => ?_) (fun h => ?_) | with_reducible refine IfB_split (fun h => ?_) (fun h => ?_))
  refine WX_loopS [1, 3, 29, 30] (fun k fr' J => ∃ i : Nat, k = bs.length - i ∧ i ≤ bs.length ∧ fr'.get 31 = .int .i64 i ∧ Keep none H J ∧ J[H.length]? = some (⟨[.int .i64 nx, boxE.lst bs], 0, .full⟩ : Blk) ∧ ∀ j (hj : j < i) (hx : j < bs.length), bs[j].length ≤ 256 ∧ boxB bs nx (-1) bs[j] = true) bs.length ⟨0, rfl, by omega, by simp only [go_sem, Nat.reduceLT, Nat.reduceEqDiff, Nat.reduceAdd, Nat.reduceMul, Nat.reduceSub, Nat.reduceLeDiff, Int.reduceToNat, Int.reduceNeg, Int.reduceLT, Int.reduceLE, Int.reduceEq, reduceCtorEq]; rfl, Keep.app _ _ _, by simp, fun j hj => by omega⟩ ?_
  rintro k fr' J A R hA hs hg hR ⟨i, rfl, hi, f31, kJ, g0, hall⟩
  have s1 := hg 1 (by decide)
  have s3 := hg 3 (by decide)
  have s29 := hg 29 (by decide)
  have s30 := hg 30 (by decide)
  simp only [Fr.get_put, Fr.get_init, List.getD_cons_zero, List.getD_cons_succ, Nat.reduceEqDiff, if_true, if_false] at s1 s3 s29 s30
  refine wx_sound hT _ ?_
  by_cases hlt : i < bs.length
  rotate_left
  · have i5 : ¬ (i : Int) < bs.length := by omega
    rw [queE_ok ⟨hl.1, hl.2, by show 0 ≤ nx; omega, by show nx ≤ _; omega, fun l hm => by obtain ⟨j, hj, rfl⟩ := List.getElem_of_mem hm; have hj2 : j < bs.length := hj; exact hall j (by omega) hj⟩] at hK
    repeat' (first | simp only [go_sem, Nat.reduceLT, Nat.reduceEqDiff, Nat.reduceAdd, Nat.reduceMul, Nat.reduceSub, Nat.reduceLeDiff, Int.reduceToNat, Int.reduceNeg, Int.reduceLT, Int.reduceLE, Int.reduceEq, reduceCtorEq, Int.natCast_zero, Int.natCast_one, Int.cast_ofNat_Int, Bool.not_not, false_eq_decide, true_eq_decide, hread0, hreadk, read_cons0, read_consk, astore_h0, astore_hk, hget0, hgetk, hset0, hsetk, hlen, hcat, Nat.add_assoc, Nat.add_zero, Nat.zero_add, List.length_append, and_true, true_and, AV.flat, *, -hK, -hl, -hb2, -hb, -hbad, -wh, -hall, -kJ, -g0, -hlt] | with_reducible refine IfB_dec (fun h => ?_) (fun h => ?_) | with_reducible refine Guard_dec (fun h => ?_) (fun h => ?_) | with_reducible refine Guard_ndec (fun h => ?_) (fun h => ?_) | with_reducible refine Guard_not (fun h => ?_) (fun h => ?_) | with_reducible refine IfB_ndec (fun h => ?_) (fun h => ?_) | with_reducible refine IfB_not (fun h => ?_) (fun h => ?_) | with_reducible refine Guard_split (fun h => ?_) (fun h => ?_) | with_reducible refine IfB_split (fun h => ?_) (fun h => ?_))
    exact hK _ _ (.int _ _) kJ
  have i5 : (i : Int) < bs.length := by omega
  have e3 := inc_id hlt (by omega)
  have e1 := at_enc (E := boxE) (T := T) (k := .i64) se22 hlt rfl
  rw [boxE_cells] at e1
  have hbd := hbad _ (List.getElem_mem hlt)
  obtain ⟨hl1, hl2⟩ := hb2 _ (List.getElem_mem hlt)
  have back : bs[i].length ≤ 256 ∧ boxB bs nx (-1) bs[i] = true → ∀ fr2 J2, A fr2 → fr2.get 31 = .int .i64 ((i + 1 : Nat) : Int) → Keep none H J2 → J2[H.length]? = some (⟨[.int .i64 nx, boxE.lst bs], 0, .full⟩ : Blk) → R fr2 J2 := fun h fr2 J2 ha q1 q2 q3 => hR fr2 J2 ha (bs.length - (i + 1)) (by omega) ⟨i + 1, rfl, by omega, q1, q2, q3, fun j hj hx => (Classical.em (j = i)).elim (fun e => by subst e; exact h) (fun e => hall j (by omega) hx)⟩
  clear hR hall hbad
  generalize bs[i] = l at *
  by_cases h256 : (l.length : Int) > 256
  · rw [hbd fun h => by omega] at hK
    repeat' (first | simp only [go_sem, Nat.reduceLT, Nat.reduceEqDiff, Nat.reduceAdd, Nat.reduceMul, Nat.reduceSub, Nat.reduceLeDiff, Int.reduceToNat, Int.reduceNeg, Int.reduceLT, Int.reduceLE, Int.reduceEq, reduceCtorEq, Int.natCast_zero, Int.natCast_one, Int.cast_ofNat_Int, Bool.not_not, false_eq_decide, true_eq_decide, hread0, hreadk, read_cons0, read_consk, astore_h0, astore_hk, hget0, hgetk, hset0, hsetk, hlen, hcat, Nat.add_assoc, Nat.add_zero, Nat.zero_add, List.length_append, and_true, true_and, AV.flat, *, -hK, -hl, -hb2, -hb, -wh, -kJ, -g0, -hbd, -back, -hl1, -hl2] | with_reducible refine IfB_dec (fun h => ?_) (fun h => ?_) | with_reducible refine Guard_dec (fun h => ?_) (fun h => ?_) | with_reducible refine Guard_ndec (fun h => ?_) (fun h => ?_) | with_reducible refine Guard_not (fun h => ?_) (fun h => ?_) | with_reducible refine IfB_ndec (fun h => ?_) (fun h => ?_) | with_reducible refine IfB_not (fun h => ?_) (fun h => ?_) | with_reducible refine Guard_split (fun h => ?_) (fun h => ?_) | with_reducible refine IfB_split (fun h => ?_) (fun h => ?_))
    exact hK _ _ (.int _ _) kJ
  repeat' (first | simp only [go_sem, Nat.reduceLT, Nat.reduceEqDiff, Nat.reduceAdd, Nat.reduceMul, Nat.reduceSub, Nat.reduceLeDiff, Int.reduceToNat, Int.reduceNeg, Int.reduceLT, Int.reduceLE, Int.reduceEq, reduceCtorEq, Int.natCast_zero, Int.natCast_one, Int.cast_ofNat_Int, Bool.not_not, false_eq_decide, true_eq_decide, hread0, hreadk, read_cons0, read_consk, astore_h0, astore_hk, hget0, hgetk, hset0, hsetk, hlen, hcat, Nat.add_assoc, Nat.add_zero, Nat.zero_add, List.length_append, and_true, true_and, AV.flat, *, -hK, -hl, -hb2, -hb, -wh, -kJ, -g0, -hbd, -back, -hl1, -hl2] | with_reducible refine IfB_dec (fun h => ?_) (fun h => ?_) | with_reducible refine Guard_dec (fun h => ?_) (fun h => ?_) | with_reducible refine Guard_ndec (fun h => ?_) (fun h => ?_) | with_reducible refine Guard_not (fun h => ?_) (fun h => ?_) | with_reducible refine IfB_ndec (fun h => ?_) (fun h => ?_) | with_reducible refine IfB_not (fun h => ?_) (fun h => ?_) | with_reducible refine Guard_split (fun h => ?_) (fun h => ?_) | with_reducible refine IfB_split (fun h => ?_) (fun h => ?_))
  have hA0 := hA
  have o1 := s1
  have o3 := s3
  have o29 := s29
  have o30 := s30
  refine WX_loopS [1, 3, 29, 30, 31, 38, 39] (fun k fr' J2 => ∃ (z : Nat) (last : Int), k = l.length - z ∧ z ≤ l.length ∧ fr'.get 40 = .int .i64 z ∧ fr'.get 6 = .int .i64 last ∧ Keep none H J2 ∧ J2[H.length]? = some (⟨[.int .i64 nx, boxE.lst bs], 0, .full⟩ : Blk) ∧ boxB bs nx (-1) l = boxB bs nx last (l.drop z) ∧ A fr') l.length ⟨0, -1, rfl, by omega, by simp only [go_sem, Nat.reduceLT, Nat.reduceEqDiff, Nat.reduceAdd, Nat.reduceMul, Nat.reduceSub, Nat.reduceLeDiff, Int.reduceToNat, Int.reduceNeg, Int.reduceLT, Int.reduceLE, Int.reduceEq, reduceCtorEq]; rfl, by simp only [go_sem, Nat.reduceLT, Nat.reduceEqDiff, Nat.reduceAdd, Nat.reduceMul, Nat.reduceSub, Nat.reduceLeDiff, Int.reduceToNat, Int.reduceNeg, Int.reduceLT, Int.reduceLE, Int.reduceEq, reduceCtorEq], kJ, g0, rfl, by (repeat (first | exact hs | refine hA _ _ _ (by decide) ?_))⟩ ?_
  clear hg hs hA s1 s3 s29 s30 g0 kJ
  rintro k fr' J2 A2 R2 hA hs hg hR2 ⟨z, last, rfl, hz, f40, f6, kJ, g0, hd, hAf⟩
  have s1 := hg 1 (by decide)
  have s3 := hg 3 (by decide)
  have s29 := hg 29 (by decide)
  have s30 := hg 30 (by decide)
  have s31 := hg 31 (by decide)
  have s38 := hg 38 (by decide)
  have s39 := hg 39 (by decide)
  simp only [Fr.get_put, Fr.get_init, List.getD_cons_zero, List.getD_cons_succ, Nat.reduceEqDiff, if_true, if_false] at s1 s3 s29 s30 s31 s38 s39
  rw [o1] at s1
  rw [o3] at s3
  rw [o29] at s29
  rw [o30] at s30
  rw [f31] at s31
  clear o1 o3 o29 o30 f31
  refine wx_sound hT _ ?_
  by_cases hlz : z < l.length
  rotate_left
  · have i6 : ¬ (z : Int) < l.length := by omega
    rw [List.drop_of_length_le (by omega)] at hd
    have hgood : boxB bs nx (-1) l = true := by rw [hd]; rfl
    repeat' (first | simp only [go_sem, Nat.reduceLT, Nat.reduceEqDiff, Nat.reduceAdd, Nat.reduceMul, Nat.reduceSub, Nat.reduceLeDiff, Int.reduceToNat, Int.reduceNeg, Int.reduceLT, Int.reduceLE, Int.reduceEq, reduceCtorEq, Int.natCast_zero, Int.natCast_one, Int.cast_ofNat_Int, Bool.not_not, false_eq_decide, true_eq_decide, hread0, hreadk, read_cons0, read_consk, astore_h0, astore_hk, hget0, hgetk, hset0, hsetk, hlen, hcat, Nat.add_assoc, Nat.add_zero, Nat.zero_add, List.length_append, and_true, true_and, AV.flat, *, -hK, -hl, -hb2, -hb, -wh, -kJ, -g0, -hbd, -back, -hl1, -hl2, -hd, -hgood, -hlz] | with_reducible refine IfB_dec (fun h => ?_) (fun h => ?_) | with_reducible refine Guard_dec (fun h => ?_) (fun h => ?_) | with_reducible refine Guard_ndec (fun h => ?_) (fun h => ?_) | with_reducible refine Guard_not (fun h => ?_) (fun h => ?_) | with_reducible refine IfB_ndec (fun h => ?_) (fun h => ?_) | with_reducible refine IfB_not (fun h => ?_) (fun h => ?_) | with_reducible refine Guard_split (fun h => ?_) (fun h => ?_) | with_reducible refine IfB_split (fun h => ?_) (fun h => ?_))
    exact back ⟨by omega, hgood⟩ _ _ (by repeat (first | exact hAf | refine hA0 _ _ _ (by decide) ?_)) (by simp only [go_sem, Nat.reduceLT, Nat.reduceEqDiff, Nat.reduceAdd, Nat.reduceMul, Nat.reduceSub, Nat.reduceLeDiff, Int.reduceToNat, Int.reduceNeg, Int.reduceLT, Int.reduceLE, Int.reduceEq, reduceCtorEq]) kJ g0
  have i6 : (z : Int) < l.length := by omega
  have e7 := inc_id hlz (by omega)
  have e4 := at_enc (E := tktE) (T := T) (k := .i64) se31 hlz rfl
  rw [tktE_cells] at e4
  rw [List.drop_eq_getElem_cons hlz, boxB] at hd
  obtain ⟨hq1, hq2⟩ := hl2 _ (List.getElem_mem hlz)
  have c1 := fun J => tmay_spec l[z] hq1 J
  have c2 := fun J => wh l[z] J
  have c3 := fun J => tshards_spec l[z] bs.length hl.2 hq1 hq2 J
  have c4 := fun J => intEq_spec (whereL bs l[z]) (shardsL l[z] bs.length) (by have := whereN_len bs l[z] bs.length; show (whereN bs l[z] bs.length).length ≤ _; omega) J
  have back2 : boxB bs nx (-1) l = boxB bs nx l[z].num (l.drop (z + 1)) → ∀ fr2 J, A2 fr2 → fr2.get 40 = .int .i64 ((z + 1 : Nat) : Int) → fr2.get 6 = .int .i64 l[z].num → Keep none H J → J[H.length]? = some (⟨[.int .i64 nx, boxE.lst bs], 0, .full⟩ : Blk) → A fr2 → R2 fr2 J := fun h fr2 J ha j1 j2 j3 j4 j5 => hR2 fr2 J ha (l.length - (z + 1)) (by omega) ⟨z + 1, _, rfl, by omega, j1, j2, j3, j4, h, j5⟩
  have hbadB : boxB bs nx (-1) l = false → queE ⟨nx, bs⟩ = 8 := fun h => hbd (fun hh => by rw [h] at hh; exact absurd hh.2 (by decide))
  clear hR2 hbd back wh hl2 hb2 hb
  generalize whereL bs l[z] = W at *
  generalize shardsL l[z] bs.length = Sh at *
  generalize boxB bs nx l[z].num (List.drop (z + 1) l) = rest at *
  generalize boxB bs nx (-1) l = full at *
  generalize l[z] = t at *
  have hlt2 : True := trivial
  obtain ⟨b1, b2, ⟨b5, b6, b7, b8, b9, bA, bB, bC⟩, b3, b4⟩ := t
  generalize hmB : (⟨b1, b2, ⟨b5, b6, b7, b8, b9, bA, bB, bC⟩, b3, b4⟩ : Tkt).mayB = may at *
  unfold Tkt.av at c1 c2 c3
  simp only at c1 c2 c3 e4 hd back2
  have g1 := get_app g0 [(⟨[.int .i64 b1, .int .u8 b2, .int .u8 b5, .int .i64 b6, Enc.str.lst b7, .str b8, .int .u32 b9, .int .i64 bA, .int .u64 bB, .int .u64 bC, .int .i64 b3, .int .i64 b4], 0, .full⟩ : Blk)]
  cases may with
  | false =>
    rw [Bool.false_and, Bool.false_and, Bool.false_and] at hd
    rw [hbadB hd] at hK
    repeat' (first | simp only [go_sem, Nat.reduceLT, Nat.reduceEqDiff, Nat.reduceAdd, Nat.reduceMul, Nat.reduceSub, Nat.reduceLeDiff, Int.reduceToNat, Int.reduceNeg, Int.reduceLT, Int.reduceLE, Int.reduceEq, reduceCtorEq, Int.natCast_zero, Int.natCast_one, Int.cast_ofNat_Int, Bool.not_not, false_eq_decide, true_eq_decide, hread0, hreadk, read_cons0, read_consk, astore_h0, astore_hk, hget0, hgetk, hset0, hsetk, hlen, hcat, Nat.add_assoc, Nat.add_zero, Nat.zero_add, List.length_append, and_true, true_and, AV.flat, g0, get_app g0, read_get g0, read_app g0, *, -hK, -kJ, -hd, -back2, -c1, -c2, -c3, -c4, -hbadB, -hlt2, -hq1, -hq2] | with_reducible refine IfB_dec (fun h => ?_) (fun h => ?_) | with_reducible refine Guard_dec (fun h => ?_) (fun h => ?_) | with_reducible refine Guard_ndec (fun h => ?_) (fun h => ?_) | with_reducible refine Guard_not (fun h => ?_) (fun h => ?_) | with_reducible refine IfB_ndec (fun h => ?_) (fun h => ?_) | with_reducible refine IfB_not (fun h => ?_) (fun h => ?_) | with_reducible refine Guard_split (fun h => ?_) (fun h => ?_) | with_reducible refine IfB_split (fun h => ?_) (fun h => ?_))
    refine WX_rows hT hmix [(0, none), (1, some [true]), (2, none), (3, none), (4, none), (5, none), (6, none), (7, none), (8, none), (9, none), (10, none), (11, none), (12, none), (13, none), (14, none), (15, none), (16, none), (17, none), (18, none), (20, none), (21, none), (19, some [false, false, true, true, true, true, true, true, true, true, true, true, true, true, true, true, true, true, true, true, true]), (22, some [true, true, true, true, true, true, true, true, true, true, true, true, true, true, true, true, true, true, true, true, true, true]), (23, some [true, true, true, true, true, true, true, true, true, true, true, true, true, true, true, true, true, true, true, true, true, true, true]), (24, none), (25, none)] (by kernel_rfl) ?_
    repeat' (first | simp only [go_sem, Nat.reduceLT, Nat.reduceEqDiff, Nat.reduceAdd, Nat.reduceMul, Nat.reduceSub, Nat.reduceLeDiff, Int.reduceToNat, Int.reduceNeg, Int.reduceLT, Int.reduceLE, Int.reduceEq, reduceCtorEq, Int.natCast_zero, Int.natCast_one, Int.cast_ofNat_Int, Bool.not_not, false_eq_decide, true_eq_decide, hread0, hreadk, read_cons0, read_consk, astore_h0, astore_hk, hget0, hgetk, hset0, hsetk, hlen, hcat, Nat.add_assoc, Nat.add_zero, Nat.zero_add, List.length_append, and_true, true_and, AV.flat, g1, get_app g1, read_get g1, read_app g1, *, -hK, -kJ, -hd, -back2, -c1, -c2, -c3, -c4, -hbadB, -hlt2, -hq1, -hq2] | refine WC.call (c1 _) ?_ | refine WC.call (c2 _) ?_ | refine WC.call (c3 _) ?_ | refine WC.call (c4 _) ?_ | with_reducible refine IfB_dec (fun h => ?_) (fun h => ?_) | with_reducible refine Guard_dec (fun h => ?_) (fun h => ?_) | with_reducible refine Guard_ndec (fun h => ?_) (fun h => ?_) | with_reducible refine Guard_not (fun h => ?_) (fun h => ?_) | with_reducible refine IfB_ndec (fun h => ?_) (fun h => ?_) | with_reducible refine IfB_not (fun h => ?_) (fun h => ?_) | with_reducible refine Guard_split (fun h => ?_) (fun h => ?_) | with_reducible refine IfB_split (fun h => ?_) (fun h => ?_))
    exact hK _ _ (.int _ _) (kJ.trans (Keep.app _ _ _))
  | true =>
  rw [Bool.true_and] at hd
  by_cases n1 : b1 ≤ last
  · rw [show decide (last < b1 ∧ b1 < nx) = false by rw [decide_eq_false_iff_not]; omega, Bool.false_and, Bool.false_and] at hd
    rw [hbadB hd] at hK
    repeat' (first | simp only [go_sem, Nat.reduceLT, Nat.reduceEqDiff, Nat.reduceAdd, Nat.reduceMul, Nat.reduceSub, Nat.reduceLeDiff, Int.reduceToNat, Int.reduceNeg, Int.reduceLT, Int.reduceLE, Int.reduceEq, reduceCtorEq, Int.natCast_zero, Int.natCast_one, Int.cast_ofNat_Int, Bool.not_not, false_eq_decide, true_eq_decide, hread0, hreadk, read_cons0, read_consk, astore_h0, astore_hk, hget0, hgetk, hset0, hsetk, hlen, hcat, Nat.add_assoc, Nat.add_zero, Nat.zero_add, List.length_append, and_true, true_and, AV.flat, g0, get_app g0, read_get g0, read_app g0, *, -hK, -kJ, -hd, -back2, -c1, -c2, -c3, -c4, -hbadB, -hlt2, -hq1, -hq2] | with_reducible refine IfB_dec (fun h => ?_) (fun h => ?_) | with_reducible refine Guard_dec (fun h => ?_) (fun h => ?_) | with_reducible refine Guard_ndec (fun h => ?_) (fun h => ?_) | with_reducible refine Guard_not (fun h => ?_) (fun h => ?_) | with_reducible refine IfB_ndec (fun h => ?_) (fun h => ?_) | with_reducible refine IfB_not (fun h => ?_) (fun h => ?_) | with_reducible refine Guard_split (fun h => ?_) (fun h => ?_) | with_reducible refine IfB_split (fun h => ?_) (fun h => ?_))
    refine WX_rows hT hmix [(0, none), (1, some [true]), (2, none), (3, none), (4, none), (5, none), (6, none), (7, none), (8, none), (9, none), (10, none), (11, none), (12, none), (13, none), (14, none), (15, none), (16, none), (17, none), (18, none), (20, none), (21, none), (19, some [false, false, true, true, true, true, true, true, true, true, true, true, true, true, true, true, true, true, true, true, true]), (22, some [true, true, true, true, true, true, true, true, true, true, true, true, true, true, true, true, true, true, true, true, true, true]), (23, some [true, true, true, true, true, true, true, true, true, true, true, true, true, true, true, true, true, true, true, true, true, true, true]), (24, none), (25, none)] (by kernel_rfl) ?_
    repeat' (first | simp only [go_sem, Nat.reduceLT, Nat.reduceEqDiff, Nat.reduceAdd, Nat.reduceMul, Nat.reduceSub, Nat.reduceLeDiff, Int.reduceToNat, Int.reduceNeg, Int.reduceLT, Int.reduceLE, Int.reduceEq, reduceCtorEq, Int.natCast_zero, Int.natCast_one, Int.cast_ofNat_Int, Bool.not_not, false_eq_decide, true_eq_decide, hread0, hreadk, read_cons0, read_consk, astore_h0, astore_hk, hget0, hgetk, hset0, hsetk, hlen, hcat, Nat.add_assoc, Nat.add_zero, Nat.zero_add, List.length_append, and_true, true_and, AV.flat, g1, get_app g1, read_get g1, read_app g1, *, -hK, -kJ, -hd, -back2, -c1, -c2, -c3, -c4, -hbadB, -hlt2, -hq1, -hq2] | refine WC.call (c1 _) ?_ | refine WC.call (c2 _) ?_ | refine WC.call (c3 _) ?_ | refine WC.call (c4 _) ?_ | with_reducible refine IfB_dec (fun h => ?_) (fun h => ?_) | with_reducible refine Guard_dec (fun h => ?_) (fun h => ?_) | with_reducible refine Guard_ndec (fun h => ?_) (fun h => ?_) | with_reducible refine Guard_not (fun h => ?_) (fun h => ?_) | with_reducible refine IfB_ndec (fun h => ?_) (fun h => ?_) | with_reducible refine IfB_not (fun h => ?_) (fun h => ?_) | with_reducible refine Guard_split (fun h => ?_) (fun h => ?_) | with_reducible refine IfB_split (fun h => ?_) (fun h => ?_))
    exact hK _ _ (.int _ _) (kJ.trans (Keep.app _ _ _))
  by_cases n2 : b1 ≥ nx
  · rw [show decide (last < b1 ∧ b1 < nx) = false by rw [decide_eq_false_iff_not]; omega, Bool.false_and, Bool.false_and] at hd
    rw [hbadB hd] at hK
    repeat' (first | simp only [go_sem, Nat.reduceLT, Nat.reduceEqDiff, Nat.reduceAdd, Nat.reduceMul, Nat.reduceSub, Nat.reduceLeDiff, Int.reduceToNat, Int.reduceNeg, Int.reduceLT, Int.reduceLE, Int.reduceEq, reduceCtorEq, Int.natCast_zero, Int.natCast_one, Int.cast_ofNat_Int, Bool.not_not, false_eq_decide, true_eq_decide, hread0, hreadk, read_cons0, read_consk, astore_h0, astore_hk, hget0, hgetk, hset0, hsetk, hlen, hcat, Nat.add_assoc, Nat.add_zero, Nat.zero_add, List.length_append, and_true, true_and, AV.flat, g0, get_app g0, read_get g0, read_app g0, *, -hK, -kJ, -hd, -back2, -c1, -c2, -c3, -c4, -hbadB, -hlt2, -hq1, -hq2] | with_reducible refine IfB_dec (fun h => ?_) (fun h => ?_) | with_reducible refine Guard_dec (fun h => ?_) (fun h => ?_) | with_reducible refine Guard_ndec (fun h => ?_) (fun h => ?_) | with_reducible refine Guard_not (fun h => ?_) (fun h => ?_) | with_reducible refine IfB_ndec (fun h => ?_) (fun h => ?_) | with_reducible refine IfB_not (fun h => ?_) (fun h => ?_) | with_reducible refine Guard_split (fun h => ?_) (fun h => ?_) | with_reducible refine IfB_split (fun h => ?_) (fun h => ?_))
    refine WX_rows hT hmix [(0, none), (1, some [true]), (2, none), (3, none), (4, none), (5, none), (6, none), (7, none), (8, none), (9, none), (10, none), (11, none), (12, none), (13, none), (14, none), (15, none), (16, none), (17, none), (18, none), (20, none), (21, none), (19, some [false, false, true, true, true, true, true, true, true, true, true, true, true, true, true, true, true, true, true, true, true]), (22, some [true, true, true, true, true, true, true, true, true, true, true, true, true, true, true, true, true, true, true, true, true, true]), (23, some [true, true, true, true, true, true, true, true, true, true, true, true, true, true, true, true, true, true, true, true, true, true, true]), (24, none), (25, none)] (by kernel_rfl) ?_
    repeat' (first | simp only [go_sem, Nat.reduceLT, Nat.reduceEqDiff, Nat.reduceAdd, Nat.reduceMul, Nat.reduceSub, Nat.reduceLeDiff, Int.reduceToNat, Int.reduceNeg, Int.reduceLT, Int.reduceLE, Int.reduceEq, reduceCtorEq, Int.natCast_zero, Int.natCast_one, Int.cast_ofNat_Int, Bool.not_not, false_eq_decide, true_eq_decide, hread0, hreadk, read_cons0, read_consk, astore_h0, astore_hk, hget0, hgetk, hset0, hsetk, hlen, hcat, Nat.add_assoc, Nat.add_zero, Nat.zero_add, List.length_append, and_true, true_and, AV.flat, g1, get_app g1, read_get g1, read_app g1, *, -hK, -kJ, -hd, -back2, -c1, -c2, -c3, -c4, -hbadB, -hlt2, -hq1, -hq2] | refine WC.call (c1 _) ?_ | refine WC.call (c2 _) ?_ | refine WC.call (c3 _) ?_ | refine WC.call (c4 _) ?_ | with_reducible refine IfB_dec (fun h => ?_) (fun h => ?_) | with_reducible refine Guard_dec (fun h => ?_) (fun h => ?_) | with_reducible refine Guard_ndec (fun h => ?_) (fun h => ?_) | with_reducible refine Guard_not (fun h => ?_) (fun h => ?_) | with_reducible refine IfB_ndec (fun h => ?_) (fun h => ?_) | with_reducible refine IfB_not (fun h => ?_) (fun h => ?_) | with_reducible refine Guard_split (fun h => ?_) (fun h => ?_) | with_reducible refine IfB_split (fun h => ?_) (fun h => ?_))
    exact hK _ _ (.int _ _) (kJ.trans (Keep.app _ _ _))
  rw [show decide (last < b1 ∧ b1 < nx) = true by rw [decide_eq_true_eq]; omega, Bool.true_and] at hd
  by_cases n3 : W = Sh
  · rw [decide_eq_true n3] at c4
    rw [decide_eq_true n3, Bool.true_and] at hd
    subst n3
    repeat' (first | simp only [go_sem, Nat.reduceLT, Nat.reduceEqDiff, Nat.reduceAdd, Nat.reduceMul, Nat.reduceSub, Nat.reduceLeDiff, Int.reduceToNat, Int.reduceNeg, Int.reduceLT, Int.reduceLE, Int.reduceEq, reduceCtorEq, Int.natCast_zero, Int.natCast_one, Int.cast_ofNat_Int, Bool.not_not, false_eq_decide, true_eq_decide, hread0, hreadk, read_cons0, read_consk, astore_h0, astore_hk, hget0, hgetk, hset0, hsetk, hlen, hcat, Nat.add_assoc, Nat.add_zero, Nat.zero_add, List.length_append, and_true, true_and, AV.flat, g0, get_app g0, read_get g0, read_app g0, *, -hK, -kJ, -hd, -back2, -c1, -c2, -c3, -c4, -hbadB, -hlt2, -hq1, -hq2] | with_reducible refine IfB_dec (fun h => ?_) (fun h => ?_) | with_reducible refine Guard_dec (fun h => ?_) (fun h => ?_) | with_reducible refine Guard_ndec (fun h => ?_) (fun h => ?_) | with_reducible refine Guard_not (fun h => ?_) (fun h => ?_) | with_reducible refine IfB_ndec (fun h => ?_) (fun h => ?_) | with_reducible refine IfB_not (fun h => ?_) (fun h => ?_) | with_reducible refine Guard_split (fun h => ?_) (fun h => ?_) | with_reducible refine IfB_split (fun h => ?_) (fun h => ?_))
    refine WX_rows hT hmix [(0, none), (1, some [true]), (2, none), (3, none), (4, none), (5, none), (6, none), (7, none), (8, none), (9, none), (10, none), (11, none), (12, none), (13, none), (14, none), (15, none), (16, none), (17, none), (18, none), (20, none), (21, none), (19, some [false, false, true, true, true, true, true, true, true, true, true, true, true, true, true, true, true, true, true, true, true]), (22, some [true, true, true, true, true, true, true, true, true, true, true, true, true, true, true, true, true, true, true, true, true, true]), (23, some [true, true, true, true, true, true, true, true, true, true, true, true, true, true, true, true, true, true, true, true, true, true, true]), (24, none), (25, none)] (by kernel_rfl) ?_
    repeat' (first | simp only [go_sem, Nat.reduceLT, Nat.reduceEqDiff, Nat.reduceAdd, Nat.reduceMul, Nat.reduceSub, Nat.reduceLeDiff, Int.reduceToNat, Int.reduceNeg, Int.reduceLT, Int.reduceLE, Int.reduceEq, reduceCtorEq, Int.natCast_zero, Int.natCast_one, Int.cast_ofNat_Int, Bool.not_not, false_eq_decide, true_eq_decide, hread0, hreadk, read_cons0, read_consk, astore_h0, astore_hk, hget0, hgetk, hset0, hsetk, hlen, hcat, Nat.add_assoc, Nat.add_zero, Nat.zero_add, List.length_append, and_true, true_and, AV.flat, g1, get_app g1, read_get g1, read_app g1, *, -hK, -kJ, -hd, -back2, -c1, -c2, -c3, -c4, -hbadB, -hlt2, -hq1, -hq2] | refine WC.call (c1 _) ?_ | refine WC.call (c2 _) ?_ | refine WC.call (c3 _) ?_ | refine WC.call (c4 _) ?_ | with_reducible refine IfB_dec (fun h => ?_) (fun h => ?_) | with_reducible refine Guard_dec (fun h => ?_) (fun h => ?_) | with_reducible refine Guard_ndec (fun h => ?_) (fun h => ?_) | with_reducible refine Guard_not (fun h => ?_) (fun h => ?_) | with_reducible refine IfB_ndec (fun h => ?_) (fun h => ?_) | with_reducible refine IfB_not (fun h => ?_) (fun h => ?_) | with_reducible refine Guard_split (fun h => ?_) (fun h => ?_) | with_reducible refine IfB_split (fun h => ?_) (fun h => ?_))
    exact back2 hd _ _ (by (repeat (first | exact hs | refine hA _ _ _ (by decide) ?_))) (by simp only [go_sem, Nat.reduceLT, Nat.reduceEqDiff, Nat.reduceAdd, Nat.reduceMul, Nat.reduceSub, Nat.reduceLeDiff, Int.reduceToNat, Int.reduceNeg, Int.reduceLT, Int.reduceLE, Int.reduceEq, reduceCtorEq]) (by simp only [go_sem, Nat.reduceLT, Nat.reduceEqDiff, Nat.reduceAdd, Nat.reduceMul, Nat.reduceSub, Nat.reduceLeDiff, Int.reduceToNat, Int.reduceNeg, Int.reduceLT, Int.reduceLE, Int.reduceEq, reduceCtorEq]) (kJ.trans (Keep.app _ _ _)) g1 (by repeat (first | exact hAf | refine hA0 _ _ _ (by decide) ?_))
  · rw [decide_eq_false n3] at c4
    rw [decide_eq_false n3, Bool.false_and] at hd
    rw [hbadB hd] at hK
    clear n3
    repeat' (first | simp only [go_sem, Nat.reduceLT, Nat.reduceEqDiff, Nat.reduceAdd, Nat.reduceMul, Nat.reduceSub, Nat.reduceLeDiff, Int.reduceToNat, Int.reduceNeg, Int.reduceLT, Int.reduceLE, Int.reduceEq, reduceCtorEq, Int.natCast_zero, Int.natCast_one, Int.cast_ofNat_Int, Bool.not_not, false_eq_decide, true_eq_decide, hread0, hreadk, read_cons0, read_consk, astore_h0, astore_hk, hget0, hgetk, hset0, hsetk, hlen, hcat, Nat.add_assoc, Nat.add_zero, Nat.zero_add, List.length_append, and_true, true_and, AV.flat, g0, get_app g0, read_get g0, read_app g0, *, -hK, -kJ, -hd, -back2, -c1, -c2, -c3, -c4, -hbadB, -hlt2, -hq1, -hq2] | with_reducible refine IfB_dec (fun h => ?_) (fun h => ?_) | with_reducible refine Guard_dec (fun h => ?_) (fun h => ?_) | with_reducible refine Guard_ndec (fun h => ?_) (fun h => ?_) | with_reducible refine Guard_not (fun h => ?_) (fun h => ?_) | with_reducible refine IfB_ndec (fun h => ?_) (fun h => ?_) | with_reducible refine IfB_not (fun h => ?_) (fun h => ?_) | with_reducible refine Guard_split (fun h => ?_) (fun h => ?_) | with_reducible refine IfB_split (fun h => ?_) (fun h => ?_))
    refine WX_rows hT hmix [(0, none), (1, some [true]), (2, none), (3, none), (4, none), (5, none), (6, none), (7, none), (8, none), (9, none), (10, none), (11, none), (12, none), (13, none), (14, none), (15, none), (16, none), (17, none), (18, none), (20, none), (21, none), (19, some [false, false, true, true, true, true, true, true, true, true, true, true, true, true, true, true, true, true, true, true, true]), (22, some [true, true, true, true, true, true, true, true, true, true, true, true, true, true, true, true, true, true, true, true, true, true]), (23, some [true, true, true, true, true, true, true, true, true, true, true, true, true, true, true, true, true, true, true, true, true, true, true]), (24, none), (25, none)] (by kernel_rfl) ?_
    repeat' (first | simp only [go_sem, Nat.reduceLT, Nat.reduceEqDiff, Nat.reduceAdd, Nat.reduceMul, Nat.reduceSub, Nat.reduceLeDiff, Int.reduceToNat, Int.reduceNeg, Int.reduceLT, Int.reduceLE, Int.reduceEq, reduceCtorEq, Int.natCast_zero, Int.natCast_one, Int.cast_ofNat_Int, Bool.not_not, false_eq_decide, true_eq_decide, hread0, hreadk, read_cons0, read_consk, astore_h0, astore_hk, hget0, hgetk, hset0, hsetk, hlen, hcat, Nat.add_assoc, Nat.add_zero, Nat.zero_add, List.length_append, and_true, true_and, AV.flat, g1, get_app g1, read_get g1, read_app g1, *, -hK, -kJ, -hd, -back2, -c1, -c2, -c3, -c4, -hbadB, -hlt2, -hq1, -hq2] | refine WC.call (c1 _) ?_ | refine WC.call (c2 _) ?_ | refine WC.call (c3 _) ?_ | refine WC.call (c4 _) ?_ | with_reducible refine IfB_dec (fun h => ?_) (fun h => ?_) | with_reducible refine Guard_dec (fun h => ?_) (fun h => ?_) | with_reducible refine Guard_ndec (fun h => ?_) (fun h => ?_) | with_reducible refine Guard_not (fun h => ?_) (fun h => ?_) | with_reducible refine IfB_ndec (fun h => ?_) (fun h => ?_) | with_reducible refine IfB_not (fun h => ?_) (fun h => ?_) | with_reducible refine Guard_split (fun h => ?_) (fun h => ?_) | with_reducible refine IfB_split (fun h => ?_) (fun h => ?_))
    exact hK _ _ (.int _ _) (kJ.trans (Keep.app _ _ _))
end Go.Proofs.Ytkmkhiipiflelaa
