import Derived.Test.YtkmkhiipiflelaaTktX
set_option linter.unusedSimpArgs false
set_option linter.unusedVariables false
set_option maxRecDepth 100000
set_option maxHeartbeats 4000000
namespace Go.Proofs.Ytkmkhiipiflelaa
open Go Go.Proofs Go.Proofs.PI
def tFit (t : Tkt) : Prop := t.cmd.keys.length ≤ 140737488355328
def qIn (b : List (List Tkt)) : Prop := b.length ≤ 140737488355328 ∧ ∀ l ∈ b, l.length ≤ 140737488355328 ∧ ∀ t ∈ l, tFit t
def bFit (l : List Tkt) : Prop := l.length ≤ 1000 ∧ ∀ t ∈ l, t.cmd.keys.length ≤ 1000 ∧ ∀ k ∈ t.cmd.keys, k.length ≤ 100000
theorem great_spec (q : Que) (hin : qIn q.bx) (H : Heap) : WC Try.prog 8 [q.av] H fun r H' => (∃ b, r = .bool b ∧ (b = false → qFit q.bx)) ∧ H' = H := by
  refine WC_froze (Q := fun r => ∃ b, r = .bool b ∧ (b = false → qFit q.bx)) ?_
  refine WC_of_K fun K hK => ?_
  obtain ⟨nx, bs⟩ := q
  obtain ⟨hb1, hb2⟩ := hin
  simp only at hb1 hb2 hK
  unfold Que.av
  simp only
  by_cases h20 : (bs.length : Int) > 20
  · skip
    refine WC_of_body hT Try.func8 rfl (by simp [Try.f8]) (by simp [Try.f8]) (wx_sound hT _ ?_)
    simp only [Try.f8]
    repeat' (first | simp only [go_sem, Nat.reduceLT, Nat.reduceEqDiff, Nat.reduceAdd, Nat.reduceMul, Nat.reduceSub, Nat.reduceLeDiff, Int.reduceToNat, Int.reduceNeg, Int.reduceLT, Int.reduceLE, Int.reduceEq, reduceCtorEq, Int.natCast_zero, Int.natCast_one, Int.cast_ofNat_Int, Bool.not_not, false_eq_decide, true_eq_decide, hread0, hreadk, read_cons0, read_consk, astore_h0, astore_hk, hget0, hgetk, hset0, hsetk, hlen, hcat, Nat.add_assoc, Nat.add_zero, Nat.zero_add, List.length_append, and_true, true_and, AV.flat, *, -hK, -hb2] | with_reducible refine IfB_dec (fun h => ?_) (fun h => ?_) | with_reducible refine Guard_dec (fun h => ?_) (fun h => ?_) | with_reducible refine Guard_ndec (fun h => ?_) (fun h => ?_) | with_reducible refine Guard_not (fun h => ?_) (fun h => ?_) | with_reducible refine IfB_ndec (fun h => ?_) (fun h => ?_) | with_reducible refine IfB_not (fun h => ?_) (fun h => ?_) | with_reducible refine Guard_split (fun h => ?_) (fun h => ?_) | with_reducible refine IfB_split (fun h => ?_) (fun h => ?_))
    exact hK _ _ ⟨_, .bool _, Keep.app _ _ _, _, rfl, fun hb => by cases hb⟩
  refine WC_of_body hT Try.func8 rfl (by simp [Try.f8]) (by simp [Try.f8]) (wx_sound hT _ ?_)
  simp only [Try.f8]
  repeat' (first | simp only [go_sem, Nat.reduceLT, Nat.reduceEqDiff, Nat.reduceAdd, Nat.reduceMul, Nat.reduceSub, Nat.reduceLeDiff, Int.reduceToNat, Int.reduceNeg, Int.reduceLT, Int.reduceLE, Int.reduceEq, reduceCtorEq, Int.natCast_zero, Int.natCast_one, Int.cast_ofNat_Int, Bool.not_not, false_eq_decide, true_eq_decide, hread0, hreadk, read_cons0, read_consk, astore_h0, astore_hk, hget0, hgetk, hset0, hsetk, hlen, hcat, Nat.add_assoc, Nat.add_zero, Nat.zero_add, List.length_append, and_true, true_and, AV.flat, *, -hK, -hb2] | with_reducible refine IfB_dec (fun h => ?_) (fun h => ?_) | with_reducible refine Guard_dec (fun h => ?_) (fun h => ?_) | with_reducible refine Guard_ndec (fun h => ?_) (fun h => ?_) | with_reducible refine Guard_not (fun h => ?_) (fun h => ?_) | with_reducible refine IfB_ndec (fun h => ?_) (fun h => ?_) | with_reducible refine IfB_not (fun h => ?_) (fun h => ?_) | with_reducible refine Guard_split (fun h => ?_) (fun h => ?_) | with_reducible refine IfB_split (fun h => ?_) (fun h => ?_))
  generalize hG : (H ++ [(⟨[.int .i64 nx, boxE.lst bs], 0, .full⟩ : Blk)] : Heap) = G
  have g0 : G[H.length]? = some (⟨[.int .i64 nx, boxE.lst bs], 0, .full⟩ : Blk) := by rw [← hG, hget0]; rfl
  have kG : Keep none H G := by rw [← hG]; exact Keep.app _ _ _
  clear hG
  refine WX_loopS [1] (fun k fr' J => ∃ (i : Nat) (n : Int), k = bs.length - i ∧ i ≤ bs.length ∧ fr'.get 4 = .int .i64 i ∧ fr'.get 3 = .int .i64 n ∧ J = G ∧ 0 ≤ n ∧ n ≤ 100 ∧ ∀ j (hj : j < i) (hx : j < bs.length), bFit bs[j]) bs.length ⟨0, 0, rfl, by omega, by simp only [go_sem, Nat.reduceLT, Nat.reduceEqDiff, Nat.reduceAdd, Nat.reduceMul, Nat.reduceSub, Nat.reduceLeDiff, Int.reduceToNat, Int.reduceNeg, Int.reduceLT, Int.reduceLE, Int.reduceEq, reduceCtorEq]; rfl, by simp only [go_sem, Nat.reduceLT, Nat.reduceEqDiff, Nat.reduceAdd, Nat.reduceMul, Nat.reduceSub, Nat.reduceLeDiff, Int.reduceToNat, Int.reduceNeg, Int.reduceLT, Int.reduceLE, Int.reduceEq, reduceCtorEq], rfl, by omega, by omega, fun j hj => by omega⟩ ?_
  rintro k fr' J A R hA hs hg hR ⟨i, n, rfl, hi, f4, f3, rfl, hn0, hn1, hall⟩
  have s1 := hg 1 (by decide)
  simp only [Fr.get_put, Fr.get_init, List.getD_cons_zero, List.getD_cons_succ, Nat.reduceEqDiff, if_true, if_false] at s1
  refine wx_sound hT _ ?_
  by_cases hlt : i < bs.length
  rotate_left
  · have i1 : ¬ (i : Int) < bs.length := by omega
    repeat' (first | simp only [go_sem, Nat.reduceLT, Nat.reduceEqDiff, Nat.reduceAdd, Nat.reduceMul, Nat.reduceSub, Nat.reduceLeDiff, Int.reduceToNat, Int.reduceNeg, Int.reduceLT, Int.reduceLE, Int.reduceEq, reduceCtorEq, Int.natCast_zero, Int.natCast_one, Int.cast_ofNat_Int, Bool.not_not, false_eq_decide, true_eq_decide, hread0, hreadk, read_cons0, read_consk, astore_h0, astore_hk, hget0, hgetk, hset0, hsetk, hlen, hcat, Nat.add_assoc, Nat.add_zero, Nat.zero_add, List.length_append, and_true, true_and, AV.flat, g0, get_app g0, read_get g0, read_app g0, *, -hK, -kG, -hn0, -hn1, -hall, -hb2] | with_reducible refine IfB_dec (fun h => ?_) (fun h => ?_) | with_reducible refine Guard_dec (fun h => ?_) (fun h => ?_) | with_reducible refine Guard_ndec (fun h => ?_) (fun h => ?_) | with_reducible refine Guard_not (fun h => ?_) (fun h => ?_) | with_reducible refine IfB_ndec (fun h => ?_) (fun h => ?_) | with_reducible refine IfB_not (fun h => ?_) (fun h => ?_) | with_reducible refine Guard_split (fun h => ?_) (fun h => ?_) | with_reducible refine IfB_split (fun h => ?_) (fun h => ?_))
    refine hK _ _ ⟨_, .bool _, kG, _, rfl, fun _ => ⟨by omega, fun l hl => ?_⟩⟩
    obtain ⟨j, hj, rfl⟩ := List.getElem_of_mem hl
    exact hall j (by omega) hj
  have i1 : (i : Int) < bs.length := by omega
  have e3 := inc_id hlt hb1
  have e1 := at_enc (E := boxE) (T := T) (k := .i64) se22 hlt rfl
  rw [boxE_cells] at e1
  obtain ⟨hl1, hl2⟩ := hb2 _ (List.getElem_mem hlt)
  have back : bFit bs[i] → ∀ fr2 J2 (n2 : Int), A fr2 → fr2.get 4 = .int .i64 ((i + 1 : Nat) : Int) → fr2.get 3 = .int .i64 n2 → J2 = J → 0 ≤ n2 → n2 ≤ 100 → R fr2 J2 := fun h fr2 J2 n2 ha q1 q2 q3 q4 q5 => hR fr2 J2 ha (bs.length - (i + 1)) (by omega) ⟨i + 1, n2, rfl, by omega, q1, q2, q3, q4, q5, fun j hj hx => (Classical.em (j = i)).elim (fun e => by subst e; exact h) (fun e => hall j (by omega) hx)⟩
  clear hR hall hb2
  generalize bs[i] = l at *
  have w1 : IntKind.i64.wrap (n + l.length) = n + l.length := by rw [IntKind.wrap_i64]; omega
  by_cases h100 : n + (l.length : Int) > 100
  · skip
    repeat' (first | simp only [go_sem, Nat.reduceLT, Nat.reduceEqDiff, Nat.reduceAdd, Nat.reduceMul, Nat.reduceSub, Nat.reduceLeDiff, Int.reduceToNat, Int.reduceNeg, Int.reduceLT, Int.reduceLE, Int.reduceEq, reduceCtorEq, Int.natCast_zero, Int.natCast_one, Int.cast_ofNat_Int, Bool.not_not, false_eq_decide, true_eq_decide, hread0, hreadk, read_cons0, read_consk, astore_h0, astore_hk, hget0, hgetk, hset0, hsetk, hlen, hcat, Nat.add_assoc, Nat.add_zero, Nat.zero_add, List.length_append, and_true, true_and, AV.flat, g0, get_app g0, read_get g0, read_app g0, *, -hK, -kG, -hn0, -hn1, -hl1, -hl2, -back] | with_reducible refine IfB_dec (fun h => ?_) (fun h => ?_) | with_reducible refine Guard_dec (fun h => ?_) (fun h => ?_) | with_reducible refine Guard_ndec (fun h => ?_) (fun h => ?_) | with_reducible refine Guard_not (fun h => ?_) (fun h => ?_) | with_reducible refine IfB_ndec (fun h => ?_) (fun h => ?_) | with_reducible refine IfB_not (fun h => ?_) (fun h => ?_) | with_reducible refine Guard_split (fun h => ?_) (fun h => ?_) | with_reducible refine IfB_split (fun h => ?_) (fun h => ?_))
    exact hK _ _ ⟨_, .bool _, kG, _, rfl, fun hb => by cases hb⟩
  repeat' (first | simp only [go_sem, Nat.reduceLT, Nat.reduceEqDiff, Nat.reduceAdd, Nat.reduceMul, Nat.reduceSub, Nat.reduceLeDiff, Int.reduceToNat, Int.reduceNeg, Int.reduceLT, Int.reduceLE, Int.reduceEq, reduceCtorEq, Int.natCast_zero, Int.natCast_one, Int.cast_ofNat_Int, Bool.not_not, false_eq_decide, true_eq_decide, hread0, hreadk, read_cons0, read_consk, astore_h0, astore_hk, hget0, hgetk, hset0, hsetk, hlen, hcat, Nat.add_assoc, Nat.add_zero, Nat.zero_add, List.length_append, and_true, true_and, AV.flat, g0, get_app g0, read_get g0, read_app g0, *, -hK, -kG, -hn0, -hn1, -hl1, -hl2, -back] | with_reducible refine IfB_dec (fun h => ?_) (fun h => ?_) | with_reducible refine Guard_dec (fun h => ?_) (fun h => ?_) | with_reducible refine Guard_ndec (fun h => ?_) (fun h => ?_) | with_reducible refine Guard_not (fun h => ?_) (fun h => ?_) | with_reducible refine IfB_ndec (fun h => ?_) (fun h => ?_) | with_reducible refine IfB_not (fun h => ?_) (fun h => ?_) | with_reducible refine Guard_split (fun h => ?_) (fun h => ?_) | with_reducible refine IfB_split (fun h => ?_) (fun h => ?_))
  have hA0 := hA
  have o1 := s1
  refine WX_loopS [1, 3, 4] (fun k fr' J2 => ∃ (z : Nat), k = l.length - z ∧ z ≤ l.length ∧ fr'.get 5 = .int .i64 z ∧ J2 = J ∧ (∀ j (hj : j < z) (hx : j < l.length), l[j].cmd.keys.length ≤ 1000 ∧ ∀ k ∈ l[j].cmd.keys, k.length ≤ 100000) ∧ A fr') l.length ⟨0, rfl, by omega, by simp only [go_sem, Nat.reduceLT, Nat.reduceEqDiff, Nat.reduceAdd, Nat.reduceMul, Nat.reduceSub, Nat.reduceLeDiff, Int.reduceToNat, Int.reduceNeg, Int.reduceLT, Int.reduceLE, Int.reduceEq, reduceCtorEq]; rfl, rfl, fun j hj => by omega, by (repeat (first | exact hs | refine hA _ _ _ (by decide) ?_))⟩ ?_
  clear hg hs hA s1 f3
  rintro k fr' J2 A2 R2 hA hs hg hR2 ⟨z, rfl, hz, f5, rfl, hd, hAf⟩
  have s1 := hg 1 (by decide)
  have s3 := hg 3 (by decide)
  have s4 := hg 4 (by decide)
  simp only [Fr.get_put, Fr.get_init, List.getD_cons_zero, List.getD_cons_succ, Nat.reduceEqDiff, if_true, if_false] at s1 s3 s4
  rw [o1] at s1
  rw [f4] at s4
  clear o1 f4
  refine wx_sound hT _ ?_
  by_cases hlz : z < l.length
  rotate_left
  · have i6 : ¬ (z : Int) < l.length := by omega
    repeat' (first | simp only [go_sem, Nat.reduceLT, Nat.reduceEqDiff, Nat.reduceAdd, Nat.reduceMul, Nat.reduceSub, Nat.reduceLeDiff, Int.reduceToNat, Int.reduceNeg, Int.reduceLT, Int.reduceLE, Int.reduceEq, reduceCtorEq, Int.natCast_zero, Int.natCast_one, Int.cast_ofNat_Int, Bool.not_not, false_eq_decide, true_eq_decide, hread0, hreadk, read_cons0, read_consk, astore_h0, astore_hk, hget0, hgetk, hset0, hsetk, hlen, hcat, Nat.add_assoc, Nat.add_zero, Nat.zero_add, List.length_append, and_true, true_and, AV.flat, g0, get_app g0, read_get g0, read_app g0, *, -hK, -kG, -hn0, -hn1, -hl1, -hl2, -back, -hd, -hlz] | with_reducible refine IfB_dec (fun h => ?_) (fun h => ?_) | with_reducible refine Guard_dec (fun h => ?_) (fun h => ?_) | with_reducible refine Guard_ndec (fun h => ?_) (fun h => ?_) | with_reducible refine Guard_not (fun h => ?_) (fun h => ?_) | with_reducible refine IfB_ndec (fun h => ?_) (fun h => ?_) | with_reducible refine IfB_not (fun h => ?_) (fun h => ?_) | with_reducible refine Guard_split (fun h => ?_) (fun h => ?_) | with_reducible refine IfB_split (fun h => ?_) (fun h => ?_))
    exact back ⟨by omega, fun t ht => by obtain ⟨j, hj, rfl⟩ := List.getElem_of_mem ht; exact hd j (by omega) hj⟩ _ _ _ (by repeat (first | exact hAf | refine hA0 _ _ _ (by decide) ?_)) (by simp only [go_sem, Nat.reduceLT, Nat.reduceEqDiff, Nat.reduceAdd, Nat.reduceMul, Nat.reduceSub, Nat.reduceLeDiff, Int.reduceToNat, Int.reduceNeg, Int.reduceLT, Int.reduceLE, Int.reduceEq, reduceCtorEq]) (by simp only [go_sem, Nat.reduceLT, Nat.reduceEqDiff, Nat.reduceAdd, Nat.reduceMul, Nat.reduceSub, Nat.reduceLeDiff, Int.reduceToNat, Int.reduceNeg, Int.reduceLT, Int.reduceLE, Int.reduceEq, reduceCtorEq]; exact s3) rfl (by omega) (by omega)
  have i6 : (z : Int) < l.length := by omega
  have e7 := inc_id hlz hl1
  have e4 := at_enc (E := tktE) (T := T) (k := .i64) se31 hlz rfl
  rw [tktE_cells] at e4
  have lg := fun J => long_spec l[z].cmd (hl2 _ (List.getElem_mem hlz)) J
  have back2 : (l[z].cmd.keys.length ≤ 1000 ∧ ∀ k ∈ l[z].cmd.keys, k.length ≤ 100000) → ∀ fr2 J3, A2 fr2 → fr2.get 5 = .int .i64 ((z + 1 : Nat) : Int) → J3 = J2 → A fr2 → R2 fr2 J3 := fun h fr2 J3 ha j1 j2 j3 => hR2 fr2 J3 ha (l.length - (z + 1)) (by omega) ⟨z + 1, rfl, by omega, j1, j2, fun j hj hx => (Classical.em (j = z)).elim (fun e => by subst e; exact h) (fun e => hd j (by omega) hx), j3⟩
  clear hR2 hd back
  unfold Cmd.av at lg
  generalize l[z] = t at *
  repeat' (first | simp only [go_sem, Nat.reduceLT, Nat.reduceEqDiff, Nat.reduceAdd, Nat.reduceMul, Nat.reduceSub, Nat.reduceLeDiff, Int.reduceToNat, Int.reduceNeg, Int.reduceLT, Int.reduceLE, Int.reduceEq, reduceCtorEq, Int.natCast_zero, Int.natCast_one, Int.cast_ofNat_Int, Bool.not_not, false_eq_decide, true_eq_decide, hread0, hreadk, read_cons0, read_consk, astore_h0, astore_hk, hget0, hgetk, hset0, hsetk, hlen, hcat, Nat.add_assoc, Nat.add_zero, Nat.zero_add, List.length_append, and_true, true_and, AV.flat, g0, get_app g0, read_get g0, read_app g0, *, -hK, -kG, -hn0, -hn1, -hl1, -hl2, -lg, -back2] | with_reducible refine IfB_dec (fun h => ?_) (fun h => ?_) | with_reducible refine Guard_dec (fun h => ?_) (fun h => ?_) | with_reducible refine Guard_ndec (fun h => ?_) (fun h => ?_) | with_reducible refine Guard_not (fun h => ?_) (fun h => ?_) | with_reducible refine IfB_ndec (fun h => ?_) (fun h => ?_) | with_reducible refine IfB_not (fun h => ?_) (fun h => ?_) | with_reducible refine Guard_split (fun h => ?_) (fun h => ?_) | with_reducible refine IfB_split (fun h => ?_) (fun h => ?_))
  refine (lg _).mono ?_
  rintro r1 H1 ⟨⟨bl, rfl, hbl⟩, rfl⟩
  cases bl with
  | true =>
    repeat' (first | simp only [go_sem, Nat.reduceLT, Nat.reduceEqDiff, Nat.reduceAdd, Nat.reduceMul, Nat.reduceSub, Nat.reduceLeDiff, Int.reduceToNat, Int.reduceNeg, Int.reduceLT, Int.reduceLE, Int.reduceEq, reduceCtorEq, Int.natCast_zero, Int.natCast_one, Int.cast_ofNat_Int, Bool.not_not, false_eq_decide, true_eq_decide, hread0, hreadk, read_cons0, read_consk, astore_h0, astore_hk, hget0, hgetk, hset0, hsetk, hlen, hcat, Nat.add_assoc, Nat.add_zero, Nat.zero_add, List.length_append, and_true, true_and, AV.flat, *, -hK, -kG, -hn0, -hn1, -hl1, -hl2, -lg, -back2] | with_reducible refine IfB_dec (fun h => ?_) (fun h => ?_) | with_reducible refine Guard_dec (fun h => ?_) (fun h => ?_) | with_reducible refine Guard_ndec (fun h => ?_) (fun h => ?_) | with_reducible refine Guard_not (fun h => ?_) (fun h => ?_) | with_reducible refine IfB_ndec (fun h => ?_) (fun h => ?_) | with_reducible refine IfB_not (fun h => ?_) (fun h => ?_) | with_reducible refine Guard_split (fun h => ?_) (fun h => ?_) | with_reducible refine IfB_split (fun h => ?_) (fun h => ?_))
    exact hK _ _ ⟨_, .bool _, kG, _, rfl, fun hb => by cases hb⟩
  | false =>
    obtain ⟨hk1, -, hk2⟩ := hbl rfl
    repeat' (first | simp only [go_sem, Nat.reduceLT, Nat.reduceEqDiff, Nat.reduceAdd, Nat.reduceMul, Nat.reduceSub, Nat.reduceLeDiff, Int.reduceToNat, Int.reduceNeg, Int.reduceLT, Int.reduceLE, Int.reduceEq, reduceCtorEq, Int.natCast_zero, Int.natCast_one, Int.cast_ofNat_Int, Bool.not_not, false_eq_decide, true_eq_decide, hread0, hreadk, read_cons0, read_consk, astore_h0, astore_hk, hget0, hgetk, hset0, hsetk, hlen, hcat, Nat.add_assoc, Nat.add_zero, Nat.zero_add, List.length_append, and_true, true_and, AV.flat, *, -hK, -kG, -hn0, -hn1, -hl1, -hl2, -lg, -back2, -hk1, -hk2, -hbl, -g0] | with_reducible refine IfB_dec (fun h => ?_) (fun h => ?_) | with_reducible refine Guard_dec (fun h => ?_) (fun h => ?_) | with_reducible refine Guard_ndec (fun h => ?_) (fun h => ?_) | with_reducible refine Guard_not (fun h => ?_) (fun h => ?_) | with_reducible refine IfB_ndec (fun h => ?_) (fun h => ?_) | with_reducible refine IfB_not (fun h => ?_) (fun h => ?_) | with_reducible refine Guard_split (fun h => ?_) (fun h => ?_) | with_reducible refine IfB_split (fun h => ?_) (fun h => ?_))
    exact back2 ⟨by omega, fun k hk => by have := hk2 k hk; omega⟩ _ _ (by (repeat (first | exact hs | refine hA _ _ _ (by decide) ?_))) (by simp only [go_sem, Nat.reduceLT, Nat.reduceEqDiff, Nat.reduceAdd, Nat.reduceMul, Nat.reduceSub, Nat.reduceLeDiff, Int.reduceToNat, Int.reduceNeg, Int.reduceLT, Int.reduceLE, Int.reduceEq, reduceCtorEq]) rfl (by repeat (first | exact hAf | refine hA0 _ _ _ (by decide) ?_))
/-! ### inputs -/
theorem u8_wfi {v : Int} (h : (Lit.int .u8 v).wf = true) : 0 ≤ v ∧ v < 256 := by
  obtain ⟨b, rfl⟩ := u8_wf h
  have := b.toNat_lt; omega
theorem inp_tkt {n : Nat} {x : List AV} (h : InpP T (n + 5) 38 x) : ∃ t : Tkt, x = tktE.cells t ∧ tFit t := by
  obtain ⟨parts, rfl, hl, hp⟩ := InpP.struct tk38 h
  obtain ⟨p0, p1, p2, p3, p4, rfl⟩ := len5 hl
  obtain ⟨s0, rfl, -⟩ := InpP.int tk3 (hp 0 _ _ rfl rfl)
  obtain ⟨s1, rfl, -⟩ := InpP.int tk5 (hp 1 _ _ rfl rfl)
  obtain ⟨s3, rfl, -⟩ := InpP.int tk3 (hp 3 _ _ rfl rfl)
  obtain ⟨s4, rfl, -⟩ := InpP.int tk3 (hp 4 _ _ rfl rfl)
  obtain ⟨parts2, rfl, hl2, hp2⟩ := InpP.struct tk36 (hp 2 _ _ rfl rfl)
  obtain ⟨c0, c1, c2, c3, c4, c5, c6, c7, rfl⟩ := len8 hl2
  obtain ⟨t0, rfl, -⟩ := InpP.int tk5 (hp2 0 _ _ rfl rfl)
  obtain ⟨t1, rfl, -⟩ := InpP.int tk3 (hp2 1 _ _ rfl rfl)
  obtain ⟨ks, rfl, -, -, hd⟩ := InpP.slice (E := Enc.str) (Pr := fun _ => True) tk32 (fun x hx => by obtain ⟨s, rfl, -⟩ := InpP.str tk9 hx; exact ⟨s, rfl, trivial⟩) (hp2 2 _ _ rfl rfl)
  obtain ⟨t3, rfl, -⟩ := InpP.str tk9 (hp2 3 _ _ rfl rfl)
  obtain ⟨t4, rfl, -⟩ := InpP.int tk33 (hp2 4 _ _ rfl rfl)
  obtain ⟨t5, rfl, -⟩ := InpP.int tk3 (hp2 5 _ _ rfl rfl)
  obtain ⟨t6, rfl, -⟩ := InpP.int tk34 (hp2 6 _ _ rfl rfl)
  obtain ⟨t7, rfl, -⟩ := InpP.int tk34 (hp2 7 _ _ rfl rfl)
  exact ⟨⟨s0, s1, ⟨t0, t1, ks, t3, t4, t5, t6, t7⟩, s3, s4⟩, rfl, by
    have hb := hd _ td9
    unfold reachBytes at hb
    show ks.length ≤ _
    have : ks.length * 16 ≤ 140737488351232 := hb
    omega⟩
theorem inp_que {n : Nat} {a : AV} (h : InpPV T (n + 8) 24 a) : ∃ q : Que, a = q.av ∧ qIn q.bx := by
  obtain ⟨l, rfl, h'⟩ := h.agg tk24
  obtain ⟨parts, rfl, hl, hp⟩ := InpP.struct tk24 h'
  obtain ⟨p0, p1, rfl⟩ := len2 hl
  obtain ⟨s0, rfl, -⟩ := InpP.int tk3 (hp 0 _ _ rfl rfl)
  obtain ⟨bs, rfl, hs, -, hd⟩ := InpP.slice (E := boxE) (Pr := fun l => l.length ≤ 140737488355328 ∧ ∀ t ∈ l, tFit t) tk22 (fun x hx => by
    obtain ⟨xs, rfl, ho, -, hd⟩ := InpP.slice (E := tktE) (Pr := tFit) tk31 (fun x hx => inp_tkt hx) hx
    exact ⟨xs, rfl, by have hb := hd _ td38; unfold reachBytes at hb; have : xs.length * 120 ≤ 140737488351232 := hb; omega, ho⟩) (hp 1 _ _ rfl rfl)
  exact ⟨⟨s0, bs⟩, rfl, by have hb := hd _ td31; unfold reachBytes at hb; have : bs.length * 24 ≤ 140737488351232 := hb; show bs.length ≤ _; omega, hs⟩
end Go.Proofs.Ytkmkhiipiflelaa
