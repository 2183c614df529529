import Derived.Test.YtakllaigpjbgdaaLruM
set_option linter.unusedSimpArgs false
set_option linter.unusedVariables false
set_option maxRecDepth 100000
set_option maxHeartbeats 4000000
namespace Go.Proofs.Ytakllaigpjbgdaa
open Go Go.Proofs Go.Proofs.PI
/-! ### of two keys the one that is hit goes behind the other one -/
theorem levelO_head {o : Ord} {one : List UInt8} {k' : List (List UInt8)} (hk : o.k = one :: k') : ∃ k2, (levelO o).k = one :: k2 := by
  unfold levelO
  simp only
  have h1 : 1 ≤ halfN o := by unfold halfN; rw [hk, List.length_cons]; omega
  obtain ⟨h, hh⟩ : ∃ h, halfN o = h + 1 := ⟨halfN o - 1, by omega⟩
  rw [hh, hk, List.take_succ_cons]
  exact ⟨_, rfl⟩
theorem hits_plain {one other : List UInt8} (hne : one ≠ other) : ∀ (n : Nat) (o : Ord), o.may → tot o = n → (∃ k', o.k = one :: k') → other ∈ keysO o → ∃ j : Nat, (allL n o)[j]? = some other ∧ ∀ (i : Nat), i < j → (allL n o)[i]? ≠ some one ∧ (allL n o)[i]? ≠ some other
  | 0, o, hm, ht, ⟨k', hk⟩, _ => by unfold tot at ht; rw [hk] at ht; simp at ht
  | n + 1, o, hm, ht, ⟨k', hk⟩, ho => by
    have hv := vicO_tot (o := o) (by omega)
    obtain ⟨d1, d2, d3, d4⟩ := del_vic hm (by omega)
    have hg := may_good hm
    have hvm := vicO_mem hv
    have hvne : (vicO o).1 ≠ one := fun e => by
      rcases hvm with ⟨h1, h2⟩ | ⟨h1, h2⟩
      · rw [e] at h2
        have := hg.2
        unfold keysO at this
        rw [List.nodup_append] at this
        exact this.2.2 one h2 one (by rw [hk]; exact .head _) rfl
      · have hh := hm.2.1
        unfold halfN at hh
        rw [h1, hk] at hh
        simp only [List.length_nil, List.length_cons] at hh
        have : k' = [] := List.eq_nil_of_length_eq_zero (by omega)
        unfold keysO at ho
        rw [h1, hk, this] at ho
        simp at ho
        exact hne ho.symm
    rw [allL, if_pos hv]
    by_cases hvo : (vicO o).1 = other
    · exact ⟨0, by rw [hvo]; rfl, fun i hi => by omega⟩
    · have htk : ∃ k2, (takeO o (vicO o).1).k = one :: k2 := by
        unfold takeO
        split
        · exact ⟨k', hk⟩
        · exact ⟨k'.erase (vicO o).1, by simp only [hk]; rw [List.erase_cons_tail (by simpa using fun e => hvne e.symm)]⟩
      obtain ⟨k2, hk2⟩ := htk
      have ho2 : other ∈ keysO (levelO (takeO o (vicO o).1)) := by
        refine (levelO_perm _).mem_iff.2 ?_
        have := (takeO_perm (mem_keys.2 (vic_some hv))).mem_iff.1 ho
        rcases List.mem_cons.1 this with e | h
        · exact absurd e.symm hvo
        · exact h
      obtain ⟨j, h1, h2⟩ := hits_plain hne n _ d3 (by omega) (levelO_head hk2) ho2
      refine ⟨j + 1, by rw [List.getElem?_cons_succ]; exact h1, fun i hi => ?_⟩
      cases i with
      | zero => rw [List.getElem?_cons_zero]; exact ⟨fun e => hvne (Option.some.inj e), fun e => hvo (Option.some.inj e)⟩
      | succ i => rw [List.getElem?_cons_succ]; exact h2 i (by omega)
theorem hit_ok {o : Ord} {s : List UInt8} (hm : o.may) (hs : s ∈ keysO o) : hitE o s = 0 ∧ hitO o s = levelO ⟨(takeO o s).t, s :: (takeO o s).k⟩ ∧ (hitO o s).may ∧ (keysO (hitO o s)).Perm (keysO o) ∧ tot (hitO o s) = tot o ∧ ∃ k2, (hitO o s).k = s :: k2 := by
  have hask : askE o s = 0 := by unfold askE; rw [if_neg (not_not_intro hm), if_neg (by rw [(may_good hm).1 _ hs]; decide)]
  have hin : inO o s = true := by
    unfold inO
    rcases mem_keys.1 hs with h | h
    · rw [decide_eq_true h]; rfl
    · rw [decide_eq_true h, Bool.or_true]
  have hE : hitE o s = 0 := by unfold hitE; rw [if_neg (by rw [hask]; decide), if_pos hin]
  have hO : hitO o s = levelO ⟨(takeO o s).t, s :: (takeO o s).k⟩ := if_pos hE
  have hp : (keysO ⟨(takeO o s).t, s :: (takeO o s).k⟩).Perm (keysO o) := by
    have h1 := takeO_perm hs
    unfold keysO at h1 ⊢
    simp only
    exact List.perm_middle.trans h1.symm
  have htp : tot ⟨(takeO o s).t, s :: (takeO o s).k⟩ = tot o := by
    have := hp.length_eq
    unfold keysO at this
    rw [List.length_append, List.length_append] at this
    exact this
  rw [hO]
  exact ⟨hE, rfl, levelO_may (goodL_perm (may_good hm) hp.symm) (by rw [htp]; exact may_tot hm), (levelO_perm _).trans hp, by rw [levelO_tot, htp], levelO_head rfl⟩
theorem lruHits_walk (avs : List AV) (h : InpPAll T 9 [24, 9, 9] avs) : WC Try.prog 5 avs [] fun v _ => v = .bool true := by
  obtain ⟨a0, _, rfl, h0, h⟩ := h.cons
  obtain ⟨a1, _, rfl, h1, h⟩ := h.cons
  obtain ⟨a2, _, rfl, h2, h⟩ := h.cons
  obtain rfl := h.nil
  obtain ⟨o, rfl, hi1, hi2⟩ := inp_ord h0
  obtain ⟨one, rfl, -⟩ := InpPV.str tk9 h1
  obtain ⟨other, rfl, -⟩ := InpPV.str tk9 h2
  clear h0 h1 h2 h
  generalize ([] : Heap) = H
  refine WC_of_K fun K hK => ?_
  have gr := fun J => great_spec o hi1 hi2 J
  have ck := fun hf J => check_spec o hf J
  have hs1 := fun hf J => has_spec o hf one J
  have hs2 := fun hf J => has_spec o hf other J
  have ht := fun hf J => hit_spec o hf one J
  unfold Ord.av at gr ck hs1 hs2
  unfold Ord.av
  refine WC_of_body hT Try.func5 rfl (by simp [Try.f5]) (by simp [Try.f5]) (wx_sound hT _ ?_)
  simp only [Try.f5]
  repeat' (first | simp only [go_sem, Nat.reduceLT, Nat.reduceEqDiff, Nat.reduceAdd, Nat.reduceMul, Nat.reduceSub, Nat.reduceLeDiff, Int.reduceToNat, Int.reduceNeg, Int.reduceLT, Int.reduceLE, Int.reduceEq, reduceCtorEq, Int.natCast_zero, Int.natCast_one, Int.cast_ofNat_Int, Bool.not_not, false_eq_decide, true_eq_decide, hread0, hreadk, read_cons0, read_consk, astore_h0, astore_hk, hget0, hgetk, hset0, hsetk, hlen, hcat, Nat.add_assoc, Nat.add_zero, Nat.zero_add, List.length_append, and_true, true_and, AV.flat, *, -hK, -gr, -ck, -hs1, -hs2, -ht, -hi1, -hi2] | refine WC.call (alive_spec _) ?_ | with_reducible refine IfB_dec (fun h => ?_) (fun h => ?_) | with_reducible refine Guard_dec (fun h => ?_) (fun h => ?_) | with_reducible refine Guard_ndec (fun h => ?_) (fun h => ?_) | with_reducible refine Guard_not (fun h => ?_) (fun h => ?_) | with_reducible refine IfB_ndec (fun h => ?_) (fun h => ?_) | with_reducible refine IfB_not (fun h => ?_) (fun h => ?_) | with_reducible refine Guard_split (fun h => ?_) (fun h => ?_) | with_reducible refine IfB_split (fun h => ?_) (fun h => ?_))
  refine (gr _).mono ?_
  rintro r1 H1 ⟨⟨bl, rfl, hbl⟩, rfl⟩
  clear gr
  cases bl with
  | true =>
    repeat' (first | simp only [go_sem, Nat.reduceLT, Nat.reduceEqDiff, Nat.reduceAdd, Nat.reduceMul, Nat.reduceSub, Nat.reduceLeDiff, Int.reduceToNat, Int.reduceNeg, Int.reduceLT, Int.reduceLE, Int.reduceEq, reduceCtorEq, Int.natCast_zero, Int.natCast_one, Int.cast_ofNat_Int, Bool.not_not, false_eq_decide, true_eq_decide, hread0, hreadk, read_cons0, read_consk, astore_h0, astore_hk, hget0, hgetk, hset0, hsetk, hlen, hcat, Nat.add_assoc, Nat.add_zero, Nat.zero_add, List.length_append, and_true, true_and, AV.flat, *, -hK, -ck, -hs1, -hs2, -ht, -hbl, -hi1, -hi2] | with_reducible refine IfB_dec (fun h => ?_) (fun h => ?_) | with_reducible refine Guard_dec (fun h => ?_) (fun h => ?_) | with_reducible refine Guard_ndec (fun h => ?_) (fun h => ?_) | with_reducible refine Guard_not (fun h => ?_) (fun h => ?_) | with_reducible refine IfB_ndec (fun h => ?_) (fun h => ?_) | with_reducible refine IfB_not (fun h => ?_) (fun h => ?_) | with_reducible refine Guard_split (fun h => ?_) (fun h => ?_) | with_reducible refine IfB_split (fun h => ?_) (fun h => ?_))
    exact hK _ _ rfl
  | false =>
  have hlen := hbl rfl
  have hf : o.fit := ⟨by omega, by omega⟩
  replace ck := ck hf
  replace hs1 := hs1 hf
  replace hs2 := hs2 hf
  replace ht := ht hf
  clear hbl
  by_cases q1 : (one.length : Int) > 1000
  · repeat' (first | simp only [go_sem, Nat.reduceLT, Nat.reduceEqDiff, Nat.reduceAdd, Nat.reduceMul, Nat.reduceSub, Nat.reduceLeDiff, Int.reduceToNat, Int.reduceNeg, Int.reduceLT, Int.reduceLE, Int.reduceEq, reduceCtorEq, Int.natCast_zero, Int.natCast_one, Int.cast_ofNat_Int, Bool.not_not, false_eq_decide, true_eq_decide, hread0, hreadk, read_cons0, read_consk, astore_h0, astore_hk, hget0, hgetk, hset0, hsetk, hlen, hcat, Nat.add_assoc, Nat.add_zero, Nat.zero_add, List.length_append, and_true, true_and, AV.flat, *, -hK, -ck, -hs1, -hs2, -ht, -hlen, -hf, -hi1, -hi2] | with_reducible refine IfB_dec (fun h => ?_) (fun h => ?_) | with_reducible refine Guard_dec (fun h => ?_) (fun h => ?_) | with_reducible refine Guard_ndec (fun h => ?_) (fun h => ?_) | with_reducible refine Guard_not (fun h => ?_) (fun h => ?_) | with_reducible refine IfB_ndec (fun h => ?_) (fun h => ?_) | with_reducible refine IfB_not (fun h => ?_) (fun h => ?_) | with_reducible refine Guard_split (fun h => ?_) (fun h => ?_) | with_reducible refine IfB_split (fun h => ?_) (fun h => ?_))
    exact hK _ _ rfl
  by_cases q2 : (other.length : Int) > 1000
  · repeat' (first | simp only [go_sem, Nat.reduceLT, Nat.reduceEqDiff, Nat.reduceAdd, Nat.reduceMul, Nat.reduceSub, Nat.reduceLeDiff, Int.reduceToNat, Int.reduceNeg, Int.reduceLT, Int.reduceLE, Int.reduceEq, reduceCtorEq, Int.natCast_zero, Int.natCast_one, Int.cast_ofNat_Int, Bool.not_not, false_eq_decide, true_eq_decide, hread0, hreadk, read_cons0, read_consk, astore_h0, astore_hk, hget0, hgetk, hset0, hsetk, hlen, hcat, Nat.add_assoc, Nat.add_zero, Nat.zero_add, List.length_append, and_true, true_and, AV.flat, *, -hK, -ck, -hs1, -hs2, -ht, -hlen, -hf, -hi1, -hi2] | with_reducible refine IfB_dec (fun h => ?_) (fun h => ?_) | with_reducible refine Guard_dec (fun h => ?_) (fun h => ?_) | with_reducible refine Guard_ndec (fun h => ?_) (fun h => ?_) | with_reducible refine Guard_not (fun h => ?_) (fun h => ?_) | with_reducible refine IfB_ndec (fun h => ?_) (fun h => ?_) | with_reducible refine IfB_not (fun h => ?_) (fun h => ?_) | with_reducible refine Guard_split (fun h => ?_) (fun h => ?_) | with_reducible refine IfB_split (fun h => ?_) (fun h => ?_))
    exact hK _ _ rfl
  by_cases q3 : one = other
  · repeat' (first | simp only [go_sem, Nat.reduceLT, Nat.reduceEqDiff, Nat.reduceAdd, Nat.reduceMul, Nat.reduceSub, Nat.reduceLeDiff, Int.reduceToNat, Int.reduceNeg, Int.reduceLT, Int.reduceLE, Int.reduceEq, reduceCtorEq, Int.natCast_zero, Int.natCast_one, Int.cast_ofNat_Int, Bool.not_not, false_eq_decide, true_eq_decide, hread0, hreadk, read_cons0, read_consk, astore_h0, astore_hk, hget0, hgetk, hset0, hsetk, hlen, hcat, Nat.add_assoc, Nat.add_zero, Nat.zero_add, List.length_append, and_true, true_and, AV.flat, *, -hK, -ck, -hs1, -hs2, -ht, -hlen, -hf, -hi1, -hi2] | with_reducible refine IfB_dec (fun h => ?_) (fun h => ?_) | with_reducible refine Guard_dec (fun h => ?_) (fun h => ?_) | with_reducible refine Guard_ndec (fun h => ?_) (fun h => ?_) | with_reducible refine Guard_not (fun h => ?_) (fun h => ?_) | with_reducible refine IfB_ndec (fun h => ?_) (fun h => ?_) | with_reducible refine IfB_not (fun h => ?_) (fun h => ?_) | with_reducible refine Guard_split (fun h => ?_) (fun h => ?_) | with_reducible refine IfB_split (fun h => ?_) (fun h => ?_))
    exact hK _ _ rfl
  have hm1 : (((o.t.count one + o.k.count one : Nat) : Int) = 1) → one ∈ keysO o := fun h => by
    rw [← List.count_pos_iff]; unfold keysO; rw [List.count_append]; omega
  have hm2 : (((o.t.count other + o.k.count other : Nat) : Int) = 1) → other ∈ keysO o := fun h => by
    rw [← List.count_pos_iff]; unfold keysO; rw [List.count_append]; omega
  generalize o.t.count one + o.k.count one = n1 at *
  generalize o.t.count other + o.k.count other = n2 at *
  by_cases q4 : (n1 : Int) = 1
  rotate_left
  · repeat' (first | simp only [go_sem, Nat.reduceLT, Nat.reduceEqDiff, Nat.reduceAdd, Nat.reduceMul, Nat.reduceSub, Nat.reduceLeDiff, Int.reduceToNat, Int.reduceNeg, Int.reduceLT, Int.reduceLE, Int.reduceEq, reduceCtorEq, Int.natCast_zero, Int.natCast_one, Int.cast_ofNat_Int, Bool.not_not, false_eq_decide, true_eq_decide, hread0, hreadk, read_cons0, read_consk, astore_h0, astore_hk, hget0, hgetk, hset0, hsetk, hlen, hcat, Nat.add_assoc, Nat.add_zero, Nat.zero_add, List.length_append, and_true, true_and, AV.flat, *, -hK, -ck, -hs1, -hs2, -ht, -hlen, -hf, -hi1, -hi2, -hm1, -hm2] | refine WC.call (hs1 _) ?_ | with_reducible refine IfB_dec (fun h => ?_) (fun h => ?_) | with_reducible refine Guard_dec (fun h => ?_) (fun h => ?_) | with_reducible refine Guard_ndec (fun h => ?_) (fun h => ?_) | with_reducible refine Guard_not (fun h => ?_) (fun h => ?_) | with_reducible refine IfB_ndec (fun h => ?_) (fun h => ?_) | with_reducible refine IfB_not (fun h => ?_) (fun h => ?_) | with_reducible refine Guard_split (fun h => ?_) (fun h => ?_) | with_reducible refine IfB_split (fun h => ?_) (fun h => ?_))
    exact hK _ _ rfl
  by_cases q5 : (n2 : Int) = 1
  rotate_left
  · repeat' (first | simp only [go_sem, Nat.reduceLT, Nat.reduceEqDiff, Nat.reduceAdd, Nat.reduceMul, Nat.reduceSub, Nat.reduceLeDiff, Int.reduceToNat, Int.reduceNeg, Int.reduceLT, Int.reduceLE, Int.reduceEq, reduceCtorEq, Int.natCast_zero, Int.natCast_one, Int.cast_ofNat_Int, Bool.not_not, false_eq_decide, true_eq_decide, hread0, hreadk, read_cons0, read_consk, astore_h0, astore_hk, hget0, hgetk, hset0, hsetk, hlen, hcat, Nat.add_assoc, Nat.add_zero, Nat.zero_add, List.length_append, and_true, true_and, AV.flat, *, -hK, -ck, -hs1, -hs2, -ht, -hlen, -hf, -hi1, -hi2, -hm1, -hm2] | refine WC.call (hs1 _) ?_ | refine WC.call (hs2 _) ?_ | with_reducible refine IfB_dec (fun h => ?_) (fun h => ?_) | with_reducible refine Guard_dec (fun h => ?_) (fun h => ?_) | with_reducible refine Guard_ndec (fun h => ?_) (fun h => ?_) | with_reducible refine Guard_not (fun h => ?_) (fun h => ?_) | with_reducible refine IfB_ndec (fun h => ?_) (fun h => ?_) | with_reducible refine IfB_not (fun h => ?_) (fun h => ?_) | with_reducible refine Guard_split (fun h => ?_) (fun h => ?_) | with_reducible refine IfB_split (fun h => ?_) (fun h => ?_))
    exact hK _ _ rfl
  by_cases hm : o.may
  rotate_left
  · rw [ordE_bad hm] at ck
    repeat' (first | simp only [go_sem, Nat.reduceLT, Nat.reduceEqDiff, Nat.reduceAdd, Nat.reduceMul, Nat.reduceSub, Nat.reduceLeDiff, Int.reduceToNat, Int.reduceNeg, Int.reduceLT, Int.reduceLE, Int.reduceEq, reduceCtorEq, Int.natCast_zero, Int.natCast_one, Int.cast_ofNat_Int, Bool.not_not, false_eq_decide, true_eq_decide, hread0, hreadk, read_cons0, read_consk, astore_h0, astore_hk, hget0, hgetk, hset0, hsetk, hlen, hcat, Nat.add_assoc, Nat.add_zero, Nat.zero_add, List.length_append, and_true, true_and, AV.flat, *, -hK, -ck, -hs1, -hs2, -ht, -hlen, -hf, -hi1, -hi2, -hm1, -hm2, -hm] | refine WC.call (hs1 _) ?_ | refine WC.call (hs2 _) ?_ | refine WC.call (ck _) ?_ | with_reducible refine IfB_dec (fun h => ?_) (fun h => ?_) | with_reducible refine Guard_dec (fun h => ?_) (fun h => ?_) | with_reducible refine Guard_ndec (fun h => ?_) (fun h => ?_) | with_reducible refine Guard_not (fun h => ?_) (fun h => ?_) | with_reducible refine IfB_ndec (fun h => ?_) (fun h => ?_) | with_reducible refine IfB_not (fun h => ?_) (fun h => ?_) | with_reducible refine Guard_split (fun h => ?_) (fun h => ?_) | with_reducible refine IfB_split (fun h => ?_) (fun h => ?_))
    exact hK _ _ rfl
  rw [ordE_ok hm] at ck
  replace hm1 := hm1 q4
  replace hm2 := hm2 q5
  obtain ⟨e1, e2, e3, e4, e5, k2, e6⟩ := hit_ok hm hm1
  have hoth : other ∈ keysO (hitO o one) := e4.mem_iff.2 hm2
  have htx := may_tot e3
  have al := fun J => All_spec (hitO o one) ⟨by unfold tot at htx; omega, by unfold tot at htx; omega⟩ J
  rw [show allO (hitO o one) = allL (tot (hitO o one)) (hitO o one) from if_pos e3, ordE_ok e3] at al
  obtain ⟨j, hj1, hj2⟩ := hits_plain q3 (tot (hitO o one)) _ e3 rfl ⟨k2, e6⟩ hoth
  have hnel : other ≠ [] := fun e => by
    have := (may_good hm).1 _ hm2
    rw [e] at this; exact absurd this (by decide)
  have hal := allL_len (tot (hitO o one)) (hitO o one)
  rw [e1] at ht
  clear e2 e4 e5 e6 hoth
  generalize allL (tot (hitO o one)) (hitO o one) = L at *
  generalize hitO o one = x at *
  unfold Ord.av at ht al
  repeat' (first | simp only [go_sem, Nat.reduceLT, Nat.reduceEqDiff, Nat.reduceAdd, Nat.reduceMul, Nat.reduceSub, Nat.reduceLeDiff, Int.reduceToNat, Int.reduceNeg, Int.reduceLT, Int.reduceLE, Int.reduceEq, reduceCtorEq, Int.natCast_zero, Int.natCast_one, Int.cast_ofNat_Int, Bool.not_not, false_eq_decide, true_eq_decide, hread0, hreadk, read_cons0, read_consk, astore_h0, astore_hk, hget0, hgetk, hset0, hsetk, hlen, hcat, Nat.add_assoc, Nat.add_zero, Nat.zero_add, List.length_append, and_true, true_and, AV.flat, *, -hK, -ck, -hs1, -hs2, -ht, -hlen, -hf, -hi1, -hi2, -hm1, -hm2, -hm, -al, -hj1, -hj2, -hnel, -hal, -e3, -htx, -e1] | refine WC.call (hs1 _) ?_ | refine WC.call (hs2 _) ?_ | refine WC.call (ck _) ?_ | refine WC.call (ht _) ?_ | refine WC.call (al _) ?_ | with_reducible refine IfB_dec (fun h => ?_) (fun h => ?_) | with_reducible refine Guard_dec (fun h => ?_) (fun h => ?_) | with_reducible refine Guard_ndec (fun h => ?_) (fun h => ?_) | with_reducible refine Guard_not (fun h => ?_) (fun h => ?_) | with_reducible refine IfB_ndec (fun h => ?_) (fun h => ?_) | with_reducible refine IfB_not (fun h => ?_) (fun h => ?_) | with_reducible refine Guard_split (fun h => ?_) (fun h => ?_) | with_reducible refine IfB_split (fun h => ?_) (fun h => ?_))
  have hjl := (List.getElem?_eq_some_iff.1 hj1).1
  refine WX_loopS [1, 2, 7, 10] (fun kn fr' J => ∃ i : Nat, kn = L.length - i ∧ i ≤ L.length ∧ fr'.get 13 = .int .i64 i ∧ ((i ≤ j ∧ fr'.get 12 = .str []) ∨ (i = j + 1 ∧ fr'.get 12 = .str other))) L.length ⟨0, rfl, by omega, by simp only [go_sem, Nat.reduceLT, Nat.reduceEqDiff, Nat.reduceAdd, Nat.reduceMul, Nat.reduceSub, Nat.reduceLeDiff, Int.reduceToNat, Int.reduceNeg, Int.reduceLT, Int.reduceLE, Int.reduceEq, reduceCtorEq]; rfl, .inl ⟨by omega, by simp only [go_sem, Nat.reduceLT, Nat.reduceEqDiff, Nat.reduceAdd, Nat.reduceMul, Nat.reduceSub, Nat.reduceLeDiff, Int.reduceToNat, Int.reduceNeg, Int.reduceLT, Int.reduceLE, Int.reduceEq, reduceCtorEq]⟩⟩ ?_
  clear ck hs1 hs2 ht al
  rintro kn fr' J A R hA hs hg hR ⟨i, rfl, hi, f13, hst⟩
  have s1 := hg 1 (by decide)
  have s2 := hg 2 (by decide)
  have s7 := hg 7 (by decide)
  have s10 := hg 10 (by decide)
  simp only [Fr.get_put, Fr.get_init, List.getD_cons_zero, List.getD_cons_succ, Nat.reduceEqDiff, if_true, if_false] at s1 s2 s7 s10
  refine wx_sound hT _ ?_
  rcases hst with ⟨hij, f12⟩ | ⟨rfl, f12⟩
  · have hlt : i < L.length := by omega
    have i1 : (i : Int) < L.length := by omega
    have e3 := inc_id hlt (by omega)
    have e1 := at_enc (E := Enc.str) (T := T) (k := .i64) se22 hlt rfl
    rw [str_cells] at e1
    by_cases hij2 : i = j
    · subst hij2
      have hLi : L[i] = other := by rw [List.getElem?_eq_getElem hlt] at hj1; exact Option.some.inj hj1
      rw [hLi] at e1
      have q3b : ¬ other = one := fun e => q3 e.symm
      have back : ∀ fr2 J2, A fr2 → fr2.get 13 = .int .i64 ((i + 1 : Nat) : Int) → fr2.get 12 = .str other → R fr2 J2 := fun fr2 J2 ha q1 q2 => hR fr2 J2 ha (L.length - (i + 1)) (by omega) ⟨i + 1, rfl, by omega, q1, .inr ⟨rfl, q2⟩⟩
      clear hR hj2 hLi
      repeat' (first | simp only [go_sem, Nat.reduceLT, Nat.reduceEqDiff, Nat.reduceAdd, Nat.reduceMul, Nat.reduceSub, Nat.reduceLeDiff, Int.reduceToNat, Int.reduceNeg, Int.reduceLT, Int.reduceLE, Int.reduceEq, reduceCtorEq, Int.natCast_zero, Int.natCast_one, Int.cast_ofNat_Int, Bool.not_not, false_eq_decide, true_eq_decide, hread0, hreadk, read_cons0, read_consk, astore_h0, astore_hk, hget0, hgetk, hset0, hsetk, hlen, hcat, Nat.add_assoc, Nat.add_zero, Nat.zero_add, List.length_append, and_true, true_and, AV.flat, *, -hK, -hlen, -hf, -hi1, -hi2, -hm1, -hm2, -hm, -hj1, -hnel, -hal, -htx, -hjl, -hlt, -back, -hij] | with_reducible refine IfB_dec (fun h => ?_) (fun h => ?_) | with_reducible refine Guard_dec (fun h => ?_) (fun h => ?_) | with_reducible refine Guard_ndec (fun h => ?_) (fun h => ?_) | with_reducible refine Guard_not (fun h => ?_) (fun h => ?_) | with_reducible refine IfB_ndec (fun h => ?_) (fun h => ?_) | with_reducible refine IfB_not (fun h => ?_) (fun h => ?_) | with_reducible refine Guard_split (fun h => ?_) (fun h => ?_) | with_reducible refine IfB_split (fun h => ?_) (fun h => ?_))
      exact back _ _ (by (repeat (first | exact hs | refine hA _ _ _ (by decide) ?_))) (by simp only [go_sem, Nat.reduceLT, Nat.reduceEqDiff, Nat.reduceAdd, Nat.reduceMul, Nat.reduceSub, Nat.reduceLeDiff, Int.reduceToNat, Int.reduceNeg, Int.reduceLT, Int.reduceLE, Int.reduceEq, reduceCtorEq]) (by simp only [go_sem, Nat.reduceLT, Nat.reduceEqDiff, Nat.reduceAdd, Nat.reduceMul, Nat.reduceSub, Nat.reduceLeDiff, Int.reduceToNat, Int.reduceNeg, Int.reduceLT, Int.reduceLE, Int.reduceEq, reduceCtorEq])
    · obtain ⟨n1, n2⟩ := hj2 i (by omega)
      rw [List.getElem?_eq_getElem hlt] at n1 n2
      have m1 : ¬ L[i] = one := fun e => n1 (by rw [e])
      have m2 : ¬ L[i] = other := fun e => n2 (by rw [e])
      have back : ∀ fr2 J2, A fr2 → fr2.get 13 = .int .i64 ((i + 1 : Nat) : Int) → fr2.get 12 = .str [] → R fr2 J2 := fun fr2 J2 ha q1 q2 => hR fr2 J2 ha (L.length - (i + 1)) (by omega) ⟨i + 1, rfl, by omega, q1, .inl ⟨by omega, q2⟩⟩
      clear hR hj2 n1 n2
      generalize L[i] = y at *
      repeat' (first | simp only [go_sem, Nat.reduceLT, Nat.reduceEqDiff, Nat.reduceAdd, Nat.reduceMul, Nat.reduceSub, Nat.reduceLeDiff, Int.reduceToNat, Int.reduceNeg, Int.reduceLT, Int.reduceLE, Int.reduceEq, reduceCtorEq, Int.natCast_zero, Int.natCast_one, Int.cast_ofNat_Int, Bool.not_not, false_eq_decide, true_eq_decide, hread0, hreadk, read_cons0, read_consk, astore_h0, astore_hk, hget0, hgetk, hset0, hsetk, hlen, hcat, Nat.add_assoc, Nat.add_zero, Nat.zero_add, List.length_append, and_true, true_and, AV.flat, *, -hK, -hlen, -hf, -hi1, -hi2, -hm1, -hm2, -hm, -hj1, -hnel, -hal, -htx, -hjl, -hlt, -back, -hij, -hij2] | with_reducible refine IfB_dec (fun h => ?_) (fun h => ?_) | with_reducible refine Guard_dec (fun h => ?_) (fun h => ?_) | with_reducible refine Guard_ndec (fun h => ?_) (fun h => ?_) | with_reducible refine Guard_not (fun h => ?_) (fun h => ?_) | with_reducible refine IfB_ndec (fun h => ?_) (fun h => ?_) | with_reducible refine IfB_not (fun h => ?_) (fun h => ?_) | with_reducible refine Guard_split (fun h => ?_) (fun h => ?_) | with_reducible refine IfB_split (fun h => ?_) (fun h => ?_))
      exact back _ _ (by (repeat (first | exact hs | refine hA _ _ _ (by decide) ?_))) (by simp only [go_sem, Nat.reduceLT, Nat.reduceEqDiff, Nat.reduceAdd, Nat.reduceMul, Nat.reduceSub, Nat.reduceLeDiff, Int.reduceToNat, Int.reduceNeg, Int.reduceLT, Int.reduceLE, Int.reduceEq, reduceCtorEq]) (by simp only [go_sem, Nat.reduceLT, Nat.reduceEqDiff, Nat.reduceAdd, Nat.reduceMul, Nat.reduceSub, Nat.reduceLeDiff, Int.reduceToNat, Int.reduceNeg, Int.reduceLT, Int.reduceLE, Int.reduceEq, reduceCtorEq]; exact f12)
  · clear hR
    by_cases hlt : ((j + 1 : Nat) : Int) < L.length
    · repeat' (first | simp only [go_sem, Nat.reduceLT, Nat.reduceEqDiff, Nat.reduceAdd, Nat.reduceMul, Nat.reduceSub, Nat.reduceLeDiff, Int.reduceToNat, Int.reduceNeg, Int.reduceLT, Int.reduceLE, Int.reduceEq, reduceCtorEq, Int.natCast_zero, Int.natCast_one, Int.cast_ofNat_Int, Bool.not_not, false_eq_decide, true_eq_decide, hread0, hreadk, read_cons0, read_consk, astore_h0, astore_hk, hget0, hgetk, hset0, hsetk, hlen, hcat, Nat.add_assoc, Nat.add_zero, Nat.zero_add, List.length_append, and_true, true_and, AV.flat, *, -hK, -hlen, -hf, -hi1, -hi2, -hm1, -hm2, -hm, -hj1, -hj2, -hal, -htx, -hjl] | with_reducible refine IfB_dec (fun h => ?_) (fun h => ?_) | with_reducible refine Guard_dec (fun h => ?_) (fun h => ?_) | with_reducible refine Guard_ndec (fun h => ?_) (fun h => ?_) | with_reducible refine Guard_not (fun h => ?_) (fun h => ?_) | with_reducible refine IfB_ndec (fun h => ?_) (fun h => ?_) | with_reducible refine IfB_not (fun h => ?_) (fun h => ?_) | with_reducible refine Guard_split (fun h => ?_) (fun h => ?_) | with_reducible refine IfB_split (fun h => ?_) (fun h => ?_))
      exact hK _ _ rfl
    · repeat' (first | simp only [go_sem, Nat.reduceLT, Nat.reduceEqDiff, Nat.reduceAdd, Nat.reduceMul, Nat.reduceSub, Nat.reduceLeDiff, Int.reduceToNat, Int.reduceNeg, Int.reduceLT, Int.reduceLE, Int.reduceEq, reduceCtorEq, Int.natCast_zero, Int.natCast_one, Int.cast_ofNat_Int, Bool.not_not, false_eq_decide, true_eq_decide, hread0, hreadk, read_cons0, read_consk, astore_h0, astore_hk, hget0, hgetk, hset0, hsetk, hlen, hcat, Nat.add_assoc, Nat.add_zero, Nat.zero_add, List.length_append, and_true, true_and, AV.flat, *, -hK, -hlen, -hf, -hi1, -hi2, -hm1, -hm2, -hm, -hj1, -hj2, -hal, -htx, -hjl] | with_reducible refine IfB_dec (fun h => ?_) (fun h => ?_) | with_reducible refine Guard_dec (fun h => ?_) (fun h => ?_) | with_reducible refine Guard_ndec (fun h => ?_) (fun h => ?_) | with_reducible refine Guard_not (fun h => ?_) (fun h => ?_) | with_reducible refine IfB_ndec (fun h => ?_) (fun h => ?_) | with_reducible refine IfB_not (fun h => ?_) (fun h => ?_) | with_reducible refine Guard_split (fun h => ?_) (fun h => ?_) | with_reducible refine IfB_split (fun h => ?_) (fun h => ?_))
      exact hK _ _ rfl
end Go.Proofs.Ytakllaigpjbgdaa
