import Derived.Test.YtccfhighlpfdmaaTrkT
set_option linter.unusedSimpArgs false
set_option linter.unusedVariables false
set_option maxRecDepth 100000
set_option maxHeartbeats 4000000
namespace Go.Proofs.Ytccfhighlpfdmaa
open Go Go.Proofs Go.Proofs.PI
/-- What is answered: tracks of their own, or none. -/
def TrOut (m : Nat) (H : Heap) (v : AV) (l : List Tk) : Prop := (l = [] ∧ v = .nils) ∨ ∃ p ps, v = .sl p 0 l.length none ∧ TkO m H p l.length ps l
theorem TrOut.thaw {m : Nat} {H : Heap} {v : AV} {l : List Tk} (o : TrOut m H v l) : Thaw m H v (tkE.lst l) := by
  rcases o with ⟨rfl, rfl⟩ | ⟨p, ps, rfl, o⟩
  · exact .nils
  · exact o.thaw
theorem askE_ok {l : List Tk} {i : Int} (h : askE l i = 0) : trMay l ∧ 0 ≤ i ∧ i < l.length := by
  unfold askE at h
  split at h
  · rename_i h1
    split at h
    · rename_i h2; exact ⟨h1, h2⟩
    · cases h
  · cases h
theorem asked_own (l : List Tk) (i : Int) (hn : l.length ≤ 140737488355328) (hns : ∀ t ∈ l, t.ns.length ≤ 140737488355328) (H : Heap) :
    WC Try.prog 45 [trAv l, .int .i64 i] H fun r H' => ((askE l i = 0 ∧ ∃ p ps, r = .tup [.agg [.sl p 0 l.length none], .int .i64 0] ∧ TkO H.length H' p l.length ps l) ∨ (askE l i ≠ 0 ∧ r = .tup [.agg [.nils], .int .i64 (askE l i)])) ∧ Keep none H H' := by
  refine WC_of_K fun K hK => ?_
  have ck := fun J => trCheck_spec l hn hns J
  unfold trAv at *
  by_cases hm : trMay l
  rotate_left
  · rw [trE_bad hm] at ck
    have ha : askE l i = 8 := by unfold askE; rw [if_neg hm]
    rw [ha] at hK
    clear hm
    refine WC_of_body hT Try.func45 rfl (by simp [Try.f45]) (by simp [Try.f45]) (wx_sound hT _ ?_)
    simp only [Try.f45]
    repeat' (first | simp only [go_sem, Nat.reduceLT, Nat.reduceEqDiff, Nat.reduceAdd, Nat.reduceMul, Nat.reduceSub, Nat.reduceLeDiff, Int.reduceToNat, Int.reduceNeg, Int.reduceLT, Int.reduceLE, Int.reduceEq, reduceCtorEq, Int.natCast_zero, Int.natCast_one, Int.cast_ofNat_Int, Bool.not_not, false_eq_decide, true_eq_decide, hread0, hreadk, read_cons0, read_consk, astore_h0, astore_hk, hget0, hgetk, hset0, hsetk, hlen, hcat, Nat.add_assoc, Nat.add_zero, Nat.zero_add, List.length_append, and_true, true_and, AV.flat, *, -hK, -ck, -hns] | refine WC.call (ck _) ?_ | with_reducible refine IfB_dec (fun h => ?_) (fun h => ?_) | with_reducible refine Guard_dec (fun h => ?_) (fun h => ?_) | with_reducible refine Guard_ndec (fun h => ?_) (fun h => ?_) | with_reducible refine Guard_not (fun h => ?_) (fun h => ?_) | with_reducible refine IfB_ndec (fun h => ?_) (fun h => ?_) | with_reducible refine IfB_not (fun h => ?_) (fun h => ?_) | with_reducible refine Guard_split (fun h => ?_) (fun h => ?_) | with_reducible refine IfB_split (fun h => ?_) (fun h => ?_))
    exact hK _ _ ⟨.inr ⟨by decide, rfl⟩, Keep.app _ _ _⟩
  rw [trE_ok hm] at ck
  have hl1 := hm.1
  have hl2 := hm.2.1
  by_cases h0 : i < 0
  · have ha : askE l i = 2 := by unfold askE; rw [if_pos hm, if_neg (by omega)]
    rw [ha] at hK
    clear hm
    refine WC_of_body hT Try.func45 rfl (by simp [Try.f45]) (by simp [Try.f45]) (wx_sound hT _ ?_)
    simp only [Try.f45]
    repeat' (first | simp only [go_sem, Nat.reduceLT, Nat.reduceEqDiff, Nat.reduceAdd, Nat.reduceMul, Nat.reduceSub, Nat.reduceLeDiff, Int.reduceToNat, Int.reduceNeg, Int.reduceLT, Int.reduceLE, Int.reduceEq, reduceCtorEq, Int.natCast_zero, Int.natCast_one, Int.cast_ofNat_Int, Bool.not_not, false_eq_decide, true_eq_decide, hread0, hreadk, read_cons0, read_consk, astore_h0, astore_hk, hget0, hgetk, hset0, hsetk, hlen, hcat, Nat.add_assoc, Nat.add_zero, Nat.zero_add, List.length_append, and_true, true_and, AV.flat, *, -hK, -ck, -hns] | refine WC.call (ck _) ?_ | with_reducible refine IfB_dec (fun h => ?_) (fun h => ?_) | with_reducible refine Guard_dec (fun h => ?_) (fun h => ?_) | with_reducible refine Guard_ndec (fun h => ?_) (fun h => ?_) | with_reducible refine Guard_not (fun h => ?_) (fun h => ?_) | with_reducible refine IfB_ndec (fun h => ?_) (fun h => ?_) | with_reducible refine IfB_not (fun h => ?_) (fun h => ?_) | with_reducible refine Guard_split (fun h => ?_) (fun h => ?_) | with_reducible refine IfB_split (fun h => ?_) (fun h => ?_))
    exact hK _ _ ⟨.inr ⟨by decide, rfl⟩, Keep.app _ _ _⟩
  by_cases h1 : i ≥ l.length
  · have ha : askE l i = 2 := by unfold askE; rw [if_pos hm, if_neg (by omega)]
    rw [ha] at hK
    clear hm
    refine WC_of_body hT Try.func45 rfl (by simp [Try.f45]) (by simp [Try.f45]) (wx_sound hT _ ?_)
    simp only [Try.f45]
    repeat' (first | simp only [go_sem, Nat.reduceLT, Nat.reduceEqDiff, Nat.reduceAdd, Nat.reduceMul, Nat.reduceSub, Nat.reduceLeDiff, Int.reduceToNat, Int.reduceNeg, Int.reduceLT, Int.reduceLE, Int.reduceEq, reduceCtorEq, Int.natCast_zero, Int.natCast_one, Int.cast_ofNat_Int, Bool.not_not, false_eq_decide, true_eq_decide, hread0, hreadk, read_cons0, read_consk, astore_h0, astore_hk, hget0, hgetk, hset0, hsetk, hlen, hcat, Nat.add_assoc, Nat.add_zero, Nat.zero_add, List.length_append, and_true, true_and, AV.flat, *, -hK, -ck, -hns] | refine WC.call (ck _) ?_ | with_reducible refine IfB_dec (fun h => ?_) (fun h => ?_) | with_reducible refine Guard_dec (fun h => ?_) (fun h => ?_) | with_reducible refine Guard_ndec (fun h => ?_) (fun h => ?_) | with_reducible refine Guard_not (fun h => ?_) (fun h => ?_) | with_reducible refine IfB_ndec (fun h => ?_) (fun h => ?_) | with_reducible refine IfB_not (fun h => ?_) (fun h => ?_) | with_reducible refine Guard_split (fun h => ?_) (fun h => ?_) | with_reducible refine IfB_split (fun h => ?_) (fun h => ?_))
    exact hK _ _ ⟨.inr ⟨by decide, rfl⟩, Keep.app _ _ _⟩
  have ha : askE l i = 0 := by unfold askE; rw [if_pos hm, if_pos (by omega)]
  rw [ha] at hK
  have hk16 : ∀ t ∈ l, t.ns.length ≤ 1000 := fun t ht => by have := (hm.2.2 t ht).1.2; omega
  have tw := fun J => twin_own l hl1 (by omega) hk16 J
  unfold trAv at tw
  clear hm hk16
  refine WC_of_body hT Try.func45 rfl (by simp [Try.f45]) (by simp [Try.f45]) (wx_sound hT _ ?_)
  simp only [Try.f45]
  repeat' (first | simp only [go_sem, Nat.reduceLT, Nat.reduceEqDiff, Nat.reduceAdd, Nat.reduceMul, Nat.reduceSub, Nat.reduceLeDiff, Int.reduceToNat, Int.reduceNeg, Int.reduceLT, Int.reduceLE, Int.reduceEq, reduceCtorEq, Int.natCast_zero, Int.natCast_one, Int.cast_ofNat_Int, Bool.not_not, false_eq_decide, true_eq_decide, hread0, hreadk, read_cons0, read_consk, astore_h0, astore_hk, hget0, hgetk, hset0, hsetk, hlen, hcat, Nat.add_assoc, Nat.add_zero, Nat.zero_add, List.length_append, and_true, true_and, AV.flat, *, -hK, -ck, -hns, -tw, -ha] | refine WC.call (ck _) ?_ | with_reducible refine IfB_dec (fun h => ?_) (fun h => ?_) | with_reducible refine Guard_dec (fun h => ?_) (fun h => ?_) | with_reducible refine Guard_ndec (fun h => ?_) (fun h => ?_) | with_reducible refine Guard_not (fun h => ?_) (fun h => ?_) | with_reducible refine IfB_ndec (fun h => ?_) (fun h => ?_) | with_reducible refine IfB_not (fun h => ?_) (fun h => ?_) | with_reducible refine Guard_split (fun h => ?_) (fun h => ?_) | with_reducible refine IfB_split (fun h => ?_) (fun h => ?_))
  refine (tw _).mono ?_
  rintro r H1 ⟨p, ps, rfl, o, k⟩
  have hb1 := k.get (b := H.length + 1) (B := ⟨[.nils], 0, .full⟩) (by rw [hgetk]; rfl) (by simp)
  have hpg := o.ge
  simp only [List.length_append, List.length_cons, List.length_nil] at hpg
  repeat' (first | simp only [go_sem, Nat.reduceLT, Nat.reduceEqDiff, Nat.reduceAdd, Nat.reduceMul, Nat.reduceSub, Nat.reduceLeDiff, Int.reduceToNat, Int.reduceNeg, Int.reduceLT, Int.reduceLE, Int.reduceEq, reduceCtorEq, Int.natCast_zero, Int.natCast_one, Int.cast_ofNat_Int, Bool.not_not, false_eq_decide, true_eq_decide, hread0, hreadk, read_cons0, read_consk, astore_h0, astore_hk, hget0, hgetk, hset0, hsetk, hlen, hcat, Nat.add_assoc, Nat.add_zero, Nat.zero_add, List.length_append, and_true, true_and, AV.flat, hb1, get_app hb1, read_get hb1, read_app hb1, astore_get hb1, astore_app hb1, get_set hb1, get_set_app hb1, read_set hb1, read_set_app hb1, astore_set hb1, astore_set_app hb1, List.set_set, hget0s, hgetks, hread0s, hreadks, List.length_set, *, -hK, -ck, -hns, -tw, -ha, -o, -k] | with_reducible refine IfB_dec (fun h => ?_) (fun h => ?_) | with_reducible refine Guard_dec (fun h => ?_) (fun h => ?_) | with_reducible refine Guard_ndec (fun h => ?_) (fun h => ?_) | with_reducible refine Guard_not (fun h => ?_) (fun h => ?_) | with_reducible refine IfB_ndec (fun h => ?_) (fun h => ?_) | with_reducible refine IfB_not (fun h => ?_) (fun h => ?_) | with_reducible refine Guard_split (fun h => ?_) (fun h => ?_) | with_reducible refine IfB_split (fun h => ?_) (fun h => ?_))
  refine hK _ _ ⟨.inl ⟨rfl, p, ps, rfl, ?_⟩, ?_⟩
  · exact (o.low fun b hb hb2 => by rw [List.getElem?_set_ne (by simp at hb; omega)]).weaken (by simp)
  · have := k.len
    exact ⟨by simp at this ⊢; omega, fun b hb _ => by rw [List.getElem?_set_ne (by omega), k.at_ b (by simp; omega) (by simp), List.getElem?_append_left hb]⟩
theorem readF_spec (n x : Nm) (q : Nat) (J : Heap) (hq : J[q]? = some ⟨[.int .i64 n.ten, .str n.key], 0, .full⟩) :
    WC Try.prog 46 [x.av, .ptr q 0] J fun r H' => r = .bool (decide (x = n)) ∧ H' = J := by
  refine WC_val fun K hK => ?_
  obtain ⟨t, k⟩ := n
  obtain ⟨u, z⟩ := x
  unfold Nm.av
  simp only at hq
  have hql := (List.getElem?_eq_some_iff.1 hq).1
  have hq2 : ∀ M : Heap, (J ++ M : Heap)[q]? = some ⟨[.int .i64 t, .str k], 0, .full⟩ := fun M => by rw [List.getElem?_append_left hql]; exact hq
  have hq3 := hq2 [⟨[.int .i64 u, .str z], 0, .full⟩]
  simp only [Nm.mk.injEq] at hK
  by_cases h1 : u = t
  · by_cases h2 : z = k
    · rw [show decide (u = t ∧ z = k) = true by simp [h1, h2]] at hK
      subst h1 h2
      refine WC_of_body hT Try.func46 rfl (by simp [Try.f46]) (by simp [Try.f46]) (wx_sound hT _ ?_)
      simp only [Try.f46]
      repeat' (first | simp only [go_sem, Nat.reduceLT, Nat.reduceEqDiff, Nat.reduceAdd, Nat.reduceMul, Nat.reduceSub, Nat.reduceLeDiff, Int.reduceToNat, Int.reduceNeg, Int.reduceLT, Int.reduceLE, Int.reduceEq, reduceCtorEq, Int.natCast_zero, Int.natCast_one, Int.cast_ofNat_Int, Bool.not_not, false_eq_decide, true_eq_decide, hread0, hreadk, read_cons0, read_consk, astore_h0, astore_hk, hget0, hgetk, hset0, hsetk, hlen, hcat, Nat.add_assoc, Nat.add_zero, Nat.zero_add, List.length_append, and_true, true_and, AV.flat, hq3, get_app hq3, read_get hq3, read_app hq3, *, -hK, -hq2, -hq] | with_reducible refine IfB_dec (fun h => ?_) (fun h => ?_) | with_reducible refine Guard_dec (fun h => ?_) (fun h => ?_) | with_reducible refine Guard_ndec (fun h => ?_) (fun h => ?_) | with_reducible refine Guard_not (fun h => ?_) (fun h => ?_) | with_reducible refine IfB_ndec (fun h => ?_) (fun h => ?_) | with_reducible refine IfB_not (fun h => ?_) (fun h => ?_) | with_reducible refine Guard_split (fun h => ?_) (fun h => ?_) | with_reducible refine IfB_split (fun h => ?_) (fun h => ?_))
      exact hK _ _ (.bool _) (Keep.app _ _ _)
    · rw [show decide (u = t ∧ z = k) = false by simp [h2]] at hK
      subst h1
      refine WC_of_body hT Try.func46 rfl (by simp [Try.f46]) (by simp [Try.f46]) (wx_sound hT _ ?_)
      simp only [Try.f46]
      repeat' (first | simp only [go_sem, Nat.reduceLT, Nat.reduceEqDiff, Nat.reduceAdd, Nat.reduceMul, Nat.reduceSub, Nat.reduceLeDiff, Int.reduceToNat, Int.reduceNeg, Int.reduceLT, Int.reduceLE, Int.reduceEq, reduceCtorEq, Int.natCast_zero, Int.natCast_one, Int.cast_ofNat_Int, Bool.not_not, false_eq_decide, true_eq_decide, hread0, hreadk, read_cons0, read_consk, astore_h0, astore_hk, hget0, hgetk, hset0, hsetk, hlen, hcat, Nat.add_assoc, Nat.add_zero, Nat.zero_add, List.length_append, and_true, true_and, AV.flat, hq3, get_app hq3, read_get hq3, read_app hq3, *, -hK, -hq2, -hq] | with_reducible refine IfB_dec (fun h => ?_) (fun h => ?_) | with_reducible refine Guard_dec (fun h => ?_) (fun h => ?_) | with_reducible refine Guard_ndec (fun h => ?_) (fun h => ?_) | with_reducible refine Guard_not (fun h => ?_) (fun h => ?_) | with_reducible refine IfB_ndec (fun h => ?_) (fun h => ?_) | with_reducible refine IfB_not (fun h => ?_) (fun h => ?_) | with_reducible refine Guard_split (fun h => ?_) (fun h => ?_) | with_reducible refine IfB_split (fun h => ?_) (fun h => ?_))
      exact hK _ _ (.bool _) (Keep.app _ _ _)
  · rw [show decide (u = t ∧ z = k) = false by simp [h1]] at hK
    refine WC_of_body hT Try.func46 rfl (by simp [Try.f46]) (by simp [Try.f46]) (wx_sound hT _ ?_)
    simp only [Try.f46]
    repeat' (first | simp only [go_sem, Nat.reduceLT, Nat.reduceEqDiff, Nat.reduceAdd, Nat.reduceMul, Nat.reduceSub, Nat.reduceLeDiff, Int.reduceToNat, Int.reduceNeg, Int.reduceLT, Int.reduceLE, Int.reduceEq, reduceCtorEq, Int.natCast_zero, Int.natCast_one, Int.cast_ofNat_Int, Bool.not_not, false_eq_decide, true_eq_decide, hread0, hreadk, read_cons0, read_consk, astore_h0, astore_hk, hget0, hgetk, hset0, hsetk, hlen, hcat, Nat.add_assoc, Nat.add_zero, Nat.zero_add, List.length_append, and_true, true_and, AV.flat, hq3, get_app hq3, read_get hq3, read_app hq3, *, -hK, -hq2, -hq] | with_reducible refine IfB_dec (fun h => ?_) (fun h => ?_) | with_reducible refine Guard_dec (fun h => ?_) (fun h => ?_) | with_reducible refine Guard_ndec (fun h => ?_) (fun h => ?_) | with_reducible refine Guard_not (fun h => ?_) (fun h => ?_) | with_reducible refine IfB_ndec (fun h => ?_) (fun h => ?_) | with_reducible refine IfB_not (fun h => ?_) (fun h => ?_) | with_reducible refine Guard_split (fun h => ?_) (fun h => ?_) | with_reducible refine IfB_split (fun h => ?_) (fun h => ?_))
    exact hK _ _ (.bool _) (Keep.app _ _ _)
end Go.Proofs.Ytccfhighlpfdmaa

