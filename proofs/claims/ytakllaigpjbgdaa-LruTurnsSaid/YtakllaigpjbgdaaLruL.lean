import Derived.Test.YtakllaigpjbgdaaLruK
set_option linter.unusedSimpArgs false
set_option linter.unusedVariables false
set_option maxRecDepth 100000
set_option maxHeartbeats 4000000
namespace Go.Proofs.Ytakllaigpjbgdaa
open Go Go.Proofs Go.Proofs.PI
/-! ### who comes first goes first -/
theorem addO_may {o : Ord} {s : List UInt8} (h : addE o s = 0) : (addO o s).may ∧ addO o s = ⟨s :: o.t, o.k⟩ ∧ s ∉ keysO o ∧ kOk s = true := by
  have h1 := (addO_tot h).1
  have hm := (addO_tot h).2
  have hA : addO o s = ⟨s :: o.t, o.k⟩ := if_pos h
  have hk : kOk s = true ∧ inO o s = false := by
    unfold addE at h
    by_cases h0 : askE o s = 0
    · rw [if_neg (by rw [h0]; decide)] at h
      refine ⟨(askE_ok h0).2, ?_⟩
      cases hin : inO o s with
      | false => rfl
      | true => rw [hin, if_pos rfl] at h; cases h
    · rw [if_pos h0] at h; exact absurd h h0
  have hni : s ∉ keysO o := fun hs => by
    have := hk.2
    unfold inO at this
    rw [Bool.or_eq_false_iff, decide_eq_false_iff_not, decide_eq_false_iff_not] at this
    exact (mem_keys.1 hs).elim this.1 this.2
  refine ⟨?_, hA, hni, hk.1⟩
  rw [hA] at h1 ⊢
  have g := may_good hm
  have hh := hm.2.1
  refine ⟨by unfold tot at h1; exact h1, ?_, ⟨fun x hx => ?_, ?_⟩⟩
  · unfold halfN at hh ⊢
    simp only [List.length_cons] at hh ⊢
    omega
  · rcases List.mem_cons.1 hx with rfl | hx
    · exact hk.1
    · exact g.1 x hx
  · exact List.nodup_cons.2 ⟨hni, g.2⟩
theorem ofL_ok : ∀ {l : List (List UInt8)} {o o2 : Ord}, ofL o l = (o2, true) → o.may → o2.may ∧ o2.t = l.reverse ++ o.t ∧ o2.k = o.k
  | [], o, o2, h, hm => by
    simp only [ofL, Prod.mk.injEq] at h
    obtain ⟨rfl, -⟩ := h
    exact ⟨hm, by simp, rfl⟩
  | s :: l, o, o2, h, hm => by
    rw [ofL] at h
    by_cases hE : addE o s = 0
    · rw [if_pos hE] at h
      obtain ⟨g1, g2, -, -⟩ := addO_may hE
      obtain ⟨h1, h2, h3⟩ := ofL_ok h g1
      rw [g2] at h2 h3
      exact ⟨h1, by rw [h2, List.reverse_cons, List.append_assoc]; rfl, h3⟩
    · rw [if_neg hE] at h; cases h
theorem ord0_may : ord0.may := by decide
theorem allL_fifo : ∀ {l : List (List UInt8)}, l.Nodup → allL l.length ⟨l.reverse, []⟩ = l
  | [], _ => rfl
  | s :: l, h => by
    obtain ⟨hs, hl⟩ := List.nodup_cons.1 h
    have hne : (s :: l).reverse ≠ [] := by simp
    have hv : vicO ⟨(s :: l).reverse, []⟩ = (s, true) := by
      unfold vicO; simp only; rw [if_neg hne]; simp
    have htk : levelO (takeO ⟨(s :: l).reverse, []⟩ s) = ⟨l.reverse, []⟩ := by
      have e : takeO ⟨(s :: l).reverse, []⟩ s = ⟨l.reverse, []⟩ := by
        unfold takeO
        simp only
        rw [if_pos (by simp), List.reverse_cons, List.erase_append_right _ (by simpa using hs)]
        simp
      rw [e]
      unfold levelO
      simp
    rw [List.length_cons, allL, hv, if_pos rfl]
    simp only
    rw [htk, allL_fifo hl]
theorem first_plain {l : List (List UInt8)} {o2 : Ord} (h : ofL ord0 l = (o2, true)) : o2.may ∧ allO o2 = l := by
  obtain ⟨h1, h2, h3⟩ := ofL_ok h ord0_may
  rw [show ord0.t = [] from rfl, List.append_nil] at h2
  rw [show ord0.k = [] from rfl] at h3
  refine ⟨h1, ?_⟩
  obtain ⟨t, k⟩ := o2
  simp only at h2 h3
  subst h2 h3
  have hn : l.Nodup := by
    have := (may_good h1).2
    unfold keysO at this
    simp only [List.append_nil] at this
    exact (List.reverse_perm l).nodup_iff.1 this
  unfold allO
  rw [if_pos h1]
  have : tot ⟨l.reverse, []⟩ = l.length := by unfold tot; simp
  rw [this, allL_fifo hn]
theorem lruFirst_walk (avs : List AV) (h : InpPAll T 9 [22] avs) : WC Try.prog 4 avs [] fun v _ => v = .bool true := by
  obtain ⟨a0, _, rfl, h0, h⟩ := h.cons
  obtain rfl := h.nil
  obtain ⟨l, rfl, -, -, hd⟩ := InpPV.slice (E := Enc.str) (Pr := fun _ => True) tk22 (fun x hx => by obtain ⟨s, rfl, -⟩ := InpP.str tk9 hx; exact ⟨s, rfl, trivial⟩) h0
  have hlb : l.length ≤ 140737488355328 := by have := hd _ td9; unfold reachBytes at this; simp at this; omega
  clear h0 h hd
  generalize ([] : Heap) = H
  refine WC_of_K fun K hK => ?_
  have of_ := fun J => of_spec l hlb J
  have hfp := fun o2 h => first_plain (l := l) (o2 := o2) h
  generalize ofL ord0 l = ob at *
  obtain ⟨o2, ok⟩ := ob
  simp only at of_
  refine WC_of_body hT Try.func4 rfl (by simp [Try.f4]) (by simp [Try.f4]) (wx_sound hT _ ?_)
  simp only [Try.f4]
  repeat' (first | simp only [go_sem, Nat.reduceLT, Nat.reduceEqDiff, Nat.reduceAdd, Nat.reduceMul, Nat.reduceSub, Nat.reduceLeDiff, Int.reduceToNat, Int.reduceNeg, Int.reduceLT, Int.reduceLE, Int.reduceEq, reduceCtorEq, Int.natCast_zero, Int.natCast_one, Int.cast_ofNat_Int, Bool.not_not, false_eq_decide, true_eq_decide, hread0, hreadk, read_cons0, read_consk, astore_h0, astore_hk, hget0, hgetk, hset0, hsetk, hlen, hcat, Nat.add_assoc, Nat.add_zero, Nat.zero_add, List.length_append, and_true, true_and, AV.flat, *, -hK, -of_, -hfp] | refine WC.call (alive_spec _) ?_ | with_reducible refine IfB_dec (fun h => ?_) (fun h => ?_) | with_reducible refine Guard_dec (fun h => ?_) (fun h => ?_) | with_reducible refine Guard_ndec (fun h => ?_) (fun h => ?_) | with_reducible refine Guard_not (fun h => ?_) (fun h => ?_) | with_reducible refine IfB_ndec (fun h => ?_) (fun h => ?_) | with_reducible refine IfB_not (fun h => ?_) (fun h => ?_) | with_reducible refine Guard_split (fun h => ?_) (fun h => ?_) | with_reducible refine IfB_split (fun h => ?_) (fun h => ?_))
  refine WX_loopS [0, 3] (fun kn fr' J => ∃ (i : Nat) (n : Int), kn = l.length - i ∧ i ≤ l.length ∧ i ≤ 300 ∧ fr'.get 5 = .int .i64 i ∧ fr'.get 4 = .int .i64 n ∧ 0 ≤ n ∧ n ≤ i * 10000) l.length ⟨0, 0, rfl, by omega, by omega, by simp only [go_sem, Nat.reduceLT, Nat.reduceEqDiff, Nat.reduceAdd, Nat.reduceMul, Nat.reduceSub, Nat.reduceLeDiff, Int.reduceToNat, Int.reduceNeg, Int.reduceLT, Int.reduceLE, Int.reduceEq, reduceCtorEq]; rfl, by simp only [go_sem, Nat.reduceLT, Nat.reduceEqDiff, Nat.reduceAdd, Nat.reduceMul, Nat.reduceSub, Nat.reduceLeDiff, Int.reduceToNat, Int.reduceNeg, Int.reduceLT, Int.reduceLE, Int.reduceEq, reduceCtorEq], by omega, by omega⟩ ?_
  rintro kn fr' J A R hA hs hg hR ⟨i, n, rfl, hi, hi3, f5, f4, hn0, hn1⟩
  have s0 := hg 0 (by decide)
  have s3 := hg 3 (by decide)
  simp only [Fr.get_put, Fr.get_init, List.getD_cons_zero, List.getD_cons_succ, Nat.reduceEqDiff, if_true, if_false] at s0 s3
  refine wx_sound hT _ ?_
  by_cases hlt : i < l.length ∧ i < 300
  · obtain ⟨hlt, hlt3⟩ := hlt
    have i1 : (i : Int) < l.length := by omega
    have i2 : (i : Int) < 300 := by omega
    have e3 := inc_id hlt hlb
    have e1 := at_enc (E := Enc.str) (T := T) (k := .i64) se22 hlt rfl
    rw [str_cells] at e1
    have back : ∀ fr2 J2 (n2 : Int), A fr2 → fr2.get 5 = .int .i64 ((i + 1 : Nat) : Int) → fr2.get 4 = .int .i64 n2 → 0 ≤ n2 → n2 ≤ ((i + 1 : Nat) : Int) * 10000 → R fr2 J2 := fun fr2 J2 n2 ha q1 q2 q3 q4 => hR fr2 J2 ha (l.length - (i + 1)) (by omega) ⟨i + 1, n2, rfl, by omega, by omega, q1, q2, q3, q4⟩
    clear hR
    generalize l[i] = s at *
    repeat' (first | simp only [go_sem, Nat.reduceLT, Nat.reduceEqDiff, Nat.reduceAdd, Nat.reduceMul, Nat.reduceSub, Nat.reduceLeDiff, Int.reduceToNat, Int.reduceNeg, Int.reduceLT, Int.reduceLE, Int.reduceEq, reduceCtorEq, Int.natCast_zero, Int.natCast_one, Int.cast_ofNat_Int, Bool.not_not, false_eq_decide, true_eq_decide, hread0, hreadk, read_cons0, read_consk, astore_h0, astore_hk, hget0, hgetk, hset0, hsetk, hlen, hcat, Nat.add_assoc, Nat.add_zero, Nat.zero_add, List.length_append, and_true, true_and, AV.flat, *, -hK, -of_, -hfp, -hlt, -hlt3, -back, -hn0, -hn1, -hi3] | with_reducible refine IfB_dec (fun h => ?_) (fun h => ?_) | with_reducible refine Guard_dec (fun h => ?_) (fun h => ?_) | with_reducible refine Guard_ndec (fun h => ?_) (fun h => ?_) | with_reducible refine Guard_not (fun h => ?_) (fun h => ?_) | with_reducible refine IfB_ndec (fun h => ?_) (fun h => ?_) | with_reducible refine IfB_not (fun h => ?_) (fun h => ?_) | with_reducible refine Guard_split (fun h => ?_) (fun h => ?_) | with_reducible refine IfB_split (fun h => ?_) (fun h => ?_))
    have hbd : 0 ≤ IntKind.i64.wrap (n + (if 10000 < (s.length : Int) then (10000 : Int) else (s.length : Int))) ∧ IntKind.i64.wrap (n + (if 10000 < (s.length : Int) then (10000 : Int) else (s.length : Int))) ≤ ((i + 1 : Nat) : Int) * 10000 := by
      rw [IntKind.wrap_i64]; split <;> omega
    exact back _ _ _ (by (repeat (first | exact hs | refine hA _ _ _ (by decide) ?_))) (by simp only [go_sem, Nat.reduceLT, Nat.reduceEqDiff, Nat.reduceAdd, Nat.reduceMul, Nat.reduceSub, Nat.reduceLeDiff, Int.reduceToNat, Int.reduceNeg, Int.reduceLT, Int.reduceLE, Int.reduceEq, reduceCtorEq]) (by simp only [go_sem, Nat.reduceLT, Nat.reduceEqDiff, Nat.reduceAdd, Nat.reduceMul, Nat.reduceSub, Nat.reduceLeDiff, Int.reduceToNat, Int.reduceNeg, Int.reduceLT, Int.reduceLE, Int.reduceEq, reduceCtorEq]) hbd.1 hbd.2
  clear hR
  have tail : ∀ (X : Prop), X → X := fun _ h => h
  by_cases h256 : (l.length : Int) > 256
  · by_cases i1 : (i : Int) < l.length
    · have i2 : ¬ (i : Int) < 300 := by omega
      repeat' (first | simp only [go_sem, Nat.reduceLT, Nat.reduceEqDiff, Nat.reduceAdd, Nat.reduceMul, Nat.reduceSub, Nat.reduceLeDiff, Int.reduceToNat, Int.reduceNeg, Int.reduceLT, Int.reduceLE, Int.reduceEq, reduceCtorEq, Int.natCast_zero, Int.natCast_one, Int.cast_ofNat_Int, Bool.not_not, false_eq_decide, true_eq_decide, hread0, hreadk, read_cons0, read_consk, astore_h0, astore_hk, hget0, hgetk, hset0, hsetk, hlen, hcat, Nat.add_assoc, Nat.add_zero, Nat.zero_add, List.length_append, and_true, true_and, AV.flat, *, -hK, -of_, -hfp, -hlt, -hn0, -hn1, -hi3, -tail] | with_reducible refine IfB_dec (fun h => ?_) (fun h => ?_) | with_reducible refine Guard_dec (fun h => ?_) (fun h => ?_) | with_reducible refine Guard_ndec (fun h => ?_) (fun h => ?_) | with_reducible refine Guard_not (fun h => ?_) (fun h => ?_) | with_reducible refine IfB_ndec (fun h => ?_) (fun h => ?_) | with_reducible refine IfB_not (fun h => ?_) (fun h => ?_) | with_reducible refine Guard_split (fun h => ?_) (fun h => ?_) | with_reducible refine IfB_split (fun h => ?_) (fun h => ?_))
      exact hK _ _ rfl
    · skip
      repeat' (first | simp only [go_sem, Nat.reduceLT, Nat.reduceEqDiff, Nat.reduceAdd, Nat.reduceMul, Nat.reduceSub, Nat.reduceLeDiff, Int.reduceToNat, Int.reduceNeg, Int.reduceLT, Int.reduceLE, Int.reduceEq, reduceCtorEq, Int.natCast_zero, Int.natCast_one, Int.cast_ofNat_Int, Bool.not_not, false_eq_decide, true_eq_decide, hread0, hreadk, read_cons0, read_consk, astore_h0, astore_hk, hget0, hgetk, hset0, hsetk, hlen, hcat, Nat.add_assoc, Nat.add_zero, Nat.zero_add, List.length_append, and_true, true_and, AV.flat, *, -hK, -of_, -hfp, -hlt, -hn0, -hn1, -hi3, -tail] | with_reducible refine IfB_dec (fun h => ?_) (fun h => ?_) | with_reducible refine Guard_dec (fun h => ?_) (fun h => ?_) | with_reducible refine Guard_ndec (fun h => ?_) (fun h => ?_) | with_reducible refine Guard_not (fun h => ?_) (fun h => ?_) | with_reducible refine IfB_ndec (fun h => ?_) (fun h => ?_) | with_reducible refine IfB_not (fun h => ?_) (fun h => ?_) | with_reducible refine Guard_split (fun h => ?_) (fun h => ?_) | with_reducible refine IfB_split (fun h => ?_) (fun h => ?_))
      exact hK _ _ rfl
  have i1 : ¬ (i : Int) < l.length := by omega
  by_cases hn2 : n > 20000
  · repeat' (first | simp only [go_sem, Nat.reduceLT, Nat.reduceEqDiff, Nat.reduceAdd, Nat.reduceMul, Nat.reduceSub, Nat.reduceLeDiff, Int.reduceToNat, Int.reduceNeg, Int.reduceLT, Int.reduceLE, Int.reduceEq, reduceCtorEq, Int.natCast_zero, Int.natCast_one, Int.cast_ofNat_Int, Bool.not_not, false_eq_decide, true_eq_decide, hread0, hreadk, read_cons0, read_consk, astore_h0, astore_hk, hget0, hgetk, hset0, hsetk, hlen, hcat, Nat.add_assoc, Nat.add_zero, Nat.zero_add, List.length_append, and_true, true_and, AV.flat, *, -hK, -of_, -hfp, -hlt, -hn0, -hn1, -hi3, -tail] | with_reducible refine IfB_dec (fun h => ?_) (fun h => ?_) | with_reducible refine Guard_dec (fun h => ?_) (fun h => ?_) | with_reducible refine Guard_ndec (fun h => ?_) (fun h => ?_) | with_reducible refine Guard_not (fun h => ?_) (fun h => ?_) | with_reducible refine IfB_ndec (fun h => ?_) (fun h => ?_) | with_reducible refine IfB_not (fun h => ?_) (fun h => ?_) | with_reducible refine Guard_split (fun h => ?_) (fun h => ?_) | with_reducible refine IfB_split (fun h => ?_) (fun h => ?_))
    exact hK _ _ rfl
  unfold Ord.av at of_
  cases ok with
  | false =>
    repeat' (first | simp only [go_sem, Nat.reduceLT, Nat.reduceEqDiff, Nat.reduceAdd, Nat.reduceMul, Nat.reduceSub, Nat.reduceLeDiff, Int.reduceToNat, Int.reduceNeg, Int.reduceLT, Int.reduceLE, Int.reduceEq, reduceCtorEq, Int.natCast_zero, Int.natCast_one, Int.cast_ofNat_Int, Bool.not_not, false_eq_decide, true_eq_decide, hread0, hreadk, read_cons0, read_consk, astore_h0, astore_hk, hget0, hgetk, hset0, hsetk, hlen, hcat, Nat.add_assoc, Nat.add_zero, Nat.zero_add, List.length_append, and_true, true_and, AV.flat, *, -hK, -of_, -hfp, -hlt, -hn0, -hn1, -hi3, -tail] | refine WC.call (of_ _) ?_ | with_reducible refine IfB_dec (fun h => ?_) (fun h => ?_) | with_reducible refine Guard_dec (fun h => ?_) (fun h => ?_) | with_reducible refine Guard_ndec (fun h => ?_) (fun h => ?_) | with_reducible refine Guard_not (fun h => ?_) (fun h => ?_) | with_reducible refine IfB_ndec (fun h => ?_) (fun h => ?_) | with_reducible refine IfB_not (fun h => ?_) (fun h => ?_) | with_reducible refine Guard_split (fun h => ?_) (fun h => ?_) | with_reducible refine IfB_split (fun h => ?_) (fun h => ?_))
    exact hK _ _ rfl
  | true =>
  obtain ⟨hm, hall⟩ := hfp o2 rfl
  have htm := may_tot hm
  have al := fun J => All_spec o2 ⟨by unfold tot at htm; omega, by unfold tot at htm; omega⟩ J
  rw [hall, ordE_ok hm] at al
  have sm := fun J => sameTexts_spec l l hlb J
  rw [decide_eq_true rfl] at sm
  unfold Ord.av at al
  repeat' (first | simp only [go_sem, Nat.reduceLT, Nat.reduceEqDiff, Nat.reduceAdd, Nat.reduceMul, Nat.reduceSub, Nat.reduceLeDiff, Int.reduceToNat, Int.reduceNeg, Int.reduceLT, Int.reduceLE, Int.reduceEq, reduceCtorEq, Int.natCast_zero, Int.natCast_one, Int.cast_ofNat_Int, Bool.not_not, false_eq_decide, true_eq_decide, hread0, hreadk, read_cons0, read_consk, astore_h0, astore_hk, hget0, hgetk, hset0, hsetk, hlen, hcat, Nat.add_assoc, Nat.add_zero, Nat.zero_add, List.length_append, and_true, true_and, AV.flat, *, -hK, -of_, -hfp, -hlt, -hn0, -hn1, -hi3, -tail, -al, -sm, -hm, -hall, -htm] | refine WC.call (of_ _) ?_ | refine WC.call (al _) ?_ | refine WC.call (sm _) ?_ | with_reducible refine IfB_dec (fun h => ?_) (fun h => ?_) | with_reducible refine Guard_dec (fun h => ?_) (fun h => ?_) | with_reducible refine Guard_ndec (fun h => ?_) (fun h => ?_) | with_reducible refine Guard_not (fun h => ?_) (fun h => ?_) | with_reducible refine IfB_ndec (fun h => ?_) (fun h => ?_) | with_reducible refine IfB_not (fun h => ?_) (fun h => ?_) | with_reducible refine Guard_split (fun h => ?_) (fun h => ?_) | with_reducible refine IfB_split (fun h => ?_) (fun h => ?_))
  exact hK _ _ rfl
end Go.Proofs.Ytakllaigpjbgdaa
