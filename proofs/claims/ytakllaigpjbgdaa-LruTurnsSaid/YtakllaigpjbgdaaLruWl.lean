import Derived.Test.YtakllaigpjbgdaaLruL
import Derived.Test.YtakllaigpjbgdaaLruWk
set_option linter.unusedSimpArgs false
set_option linter.unusedVariables false
set_option maxRecDepth 100000
set_option maxHeartbeats 4000000
namespace Go.Proofs.Ytakllaigpjbgdaa
open Go Go.Proofs Go.Proofs.PI
theorem count_one {o : Ord} (hm : o.may) {x : List UInt8} (hx : x ∈ keysO o) : o.t.count x + o.k.count x = 1 := by
  have h := (may_good hm).2.count (a := x)
  rw [if_pos hx] at h
  unfold keysO at h
  rw [List.count_append] at h
  exact h
theorem count_zero {o : Ord} {x : List UInt8} (hx : x ∉ keysO o) : o.t.count x + o.k.count x = 0 := by
  have h := List.count_eq_zero_of_not_mem hx
  unfold keysO at h
  rw [List.count_append] at h
  exact h
theorem vic_ne {o : Ord} (hm : o.may) {s : List UInt8} {k' : List (List UInt8)} (hk : o.k = s :: k') (h1 : 1 < tot o) : (vicO o).1 ≠ s := fun e => by
  have hv := vicO_tot (o := o) (by omega)
  have hg := may_good hm
  rcases vicO_mem hv with ⟨h1, h2⟩ | ⟨h2, h3⟩
  · rw [e] at h2
    have := hg.2
    unfold keysO at this
    rw [List.nodup_append] at this
    exact this.2.2 s h2 s (by rw [hk]; exact .head _) rfl
  · have hh := hm.2.1
    unfold halfN at hh
    unfold tot at h1
    rw [h2, hk] at hh h1
    simp only [List.length_nil, List.length_cons] at hh h1
    omega
theorem del_ok {o : Ord} {s : List UInt8} (hm : o.may) (hs : s ∈ keysO o) : delO o s = levelO (takeO o s) ∧ (delO o s).may ∧ tot (delO o s) + 1 = tot o ∧ s ∉ keysO (delO o s) ∧ ∀ x ∈ keysO o, x ≠ s → x ∈ keysO (delO o s) := by
  have hD : delO o s = levelO (takeO o s) := if_pos (hit_ok hm hs).1
  have hg := takeO_good (may_good hm) hs
  have ht := takeO_tot (mem_keys.1 hs)
  have hp : 0 < tot o := by
    have := List.length_pos_of_mem hs
    unfold keysO at this
    rw [List.length_append] at this
    exact this
  have hmt := may_tot hm
  rw [hD]
  refine ⟨rfl, levelO_may hg.1 (by omega), by rw [levelO_tot, ht]; omega, fun h => hg.2 ((levelO_perm _).mem_iff.1 h), fun x hx hne => (levelO_perm _).mem_iff.2 ?_⟩
  rcases List.mem_cons.1 ((takeO_perm hs).mem_iff.1 hx) with e | h
  · exact absurd e hne
  · exact h
theorem hit_no {o : Ord} {s : List UInt8} (hm : o.may) (hs : s ∉ keysO o) : hitE o s ≠ 0 := by
  unfold hitE
  by_cases h0 : askE o s = 0
  · have hin : inO o s = false := by
      unfold inO
      rw [Bool.or_eq_false_iff, decide_eq_false_iff_not, decide_eq_false_iff_not]
      exact ⟨fun h => hs (mem_keys.2 (.inl h)), fun h => hs (mem_keys.2 (.inr h))⟩
    rw [if_neg (by rw [h0]; decide), hin]; decide
  · rw [if_pos h0]; exact h0
theorem may_fit {o : Ord} (h : o.may) : o.fit := by have := may_tot h; unfold tot at this; exact ⟨by omega, by omega⟩
theorem lruKeeps_walk (avs : List AV) (h : InpPAll T 9 [24, 9] avs) : WC Try.prog 3 avs [] fun v _ => v = .bool true := by
  obtain ⟨a0, _, rfl, h0, h⟩ := h.cons
  obtain ⟨a1, _, rfl, h1, h⟩ := h.cons
  obtain rfl := h.nil
  obtain ⟨o, rfl, hi1, hi2⟩ := inp_ord h0
  obtain ⟨key, rfl, -⟩ := InpPV.str tk9 h1
  clear h0 h1 h
  generalize ([] : Heap) = H
  refine WC_of_K fun K hK => ?_
  have gr := fun J => great_spec o hi1 hi2 J
  have ck := fun hf J => check_spec o hf J
  have ad := fun hf J => add_spec o hf key J
  have ht := fun hf J => hit_spec o hf key J
  have dl := fun hf J => del_spec o hf key J
  unfold Ord.av at gr ck ad ht dl
  unfold Ord.av
  refine WC_of_body hT Try.func3 rfl (by simp [Try.f3]) (by simp [Try.f3]) (wx_sound hT _ ?_)
  simp only [Try.f3]
  repeat' (first | simp only [go_sem, Nat.reduceLT, Nat.reduceEqDiff, Nat.reduceAdd, Nat.reduceMul, Nat.reduceSub, Nat.reduceLeDiff, Int.reduceToNat, Int.reduceNeg, Int.reduceLT, Int.reduceLE, Int.reduceEq, reduceCtorEq, Int.natCast_zero, Int.natCast_one, Int.cast_ofNat_Int, Bool.not_not, false_eq_decide, true_eq_decide, hread0, hreadk, read_cons0, read_consk, astore_h0, astore_hk, hget0, hgetk, hset0, hsetk, hlen, hcat, Nat.add_assoc, Nat.add_zero, Nat.zero_add, List.length_append, and_true, true_and, AV.flat, *, -hK, -gr, -ck, -ad, -ht, -dl, -hi1, -hi2] | refine WC.call (alive_spec _) ?_ | with_reducible refine IfB_dec (fun h => ?_) (fun h => ?_) | with_reducible refine Guard_dec (fun h => ?_) (fun h => ?_) | with_reducible refine Guard_ndec (fun h => ?_) (fun h => ?_) | with_reducible refine Guard_not (fun h => ?_) (fun h => ?_) | with_reducible refine IfB_ndec (fun h => ?_) (fun h => ?_) | with_reducible refine IfB_not (fun h => ?_) (fun h => ?_) | with_reducible refine Guard_split (fun h => ?_) (fun h => ?_) | with_reducible refine IfB_split (fun h => ?_) (fun h => ?_))
  refine (gr _).mono ?_
  rintro r1 H1 ⟨⟨bl, rfl, hbl⟩, rfl⟩
  clear gr
  cases bl with
  | true =>
    repeat' (first | simp only [go_sem, Nat.reduceLT, Nat.reduceEqDiff, Nat.reduceAdd, Nat.reduceMul, Nat.reduceSub, Nat.reduceLeDiff, Int.reduceToNat, Int.reduceNeg, Int.reduceLT, Int.reduceLE, Int.reduceEq, reduceCtorEq, Int.natCast_zero, Int.natCast_one, Int.cast_ofNat_Int, Bool.not_not, false_eq_decide, true_eq_decide, hread0, hreadk, read_cons0, read_consk, astore_h0, astore_hk, hget0, hgetk, hset0, hsetk, hlen, hcat, Nat.add_assoc, Nat.add_zero, Nat.zero_add, List.length_append, and_true, true_and, AV.flat, *, -hK, -ck, -ad, -ht, -dl, -hbl, -hi1, -hi2] | with_reducible refine IfB_dec (fun h => ?_) (fun h => ?_) | with_reducible refine Guard_dec (fun h => ?_) (fun h => ?_) | with_reducible refine Guard_ndec (fun h => ?_) (fun h => ?_) | with_reducible refine Guard_not (fun h => ?_) (fun h => ?_) | with_reducible refine IfB_ndec (fun h => ?_) (fun h => ?_) | with_reducible refine IfB_not (fun h => ?_) (fun h => ?_) | with_reducible refine Guard_split (fun h => ?_) (fun h => ?_) | with_reducible refine IfB_split (fun h => ?_) (fun h => ?_))
    exact hK _ _ rfl
  | false =>
  have hlen := hbl rfl
  have hf : o.fit := ⟨by omega, by omega⟩
  replace ck := ck hf
  replace ad := ad hf
  replace ht := ht hf
  replace dl := dl hf
  clear hbl
  by_cases q1 : (key.length : Int) > 10000
  · repeat' (first | simp only [go_sem, Nat.reduceLT, Nat.reduceEqDiff, Nat.reduceAdd, Nat.reduceMul, Nat.reduceSub, Nat.reduceLeDiff, Int.reduceToNat, Int.reduceNeg, Int.reduceLT, Int.reduceLE, Int.reduceEq, reduceCtorEq, Int.natCast_zero, Int.natCast_one, Int.cast_ofNat_Int, Bool.not_not, false_eq_decide, true_eq_decide, hread0, hreadk, read_cons0, read_consk, astore_h0, astore_hk, hget0, hgetk, hset0, hsetk, hlen, hcat, Nat.add_assoc, Nat.add_zero, Nat.zero_add, List.length_append, and_true, true_and, AV.flat, *, -hK, -ck, -ad, -ht, -dl, -hlen, -hf, -hi1, -hi2] | with_reducible refine IfB_dec (fun h => ?_) (fun h => ?_) | with_reducible refine Guard_dec (fun h => ?_) (fun h => ?_) | with_reducible refine Guard_ndec (fun h => ?_) (fun h => ?_) | with_reducible refine Guard_not (fun h => ?_) (fun h => ?_) | with_reducible refine IfB_ndec (fun h => ?_) (fun h => ?_) | with_reducible refine IfB_not (fun h => ?_) (fun h => ?_) | with_reducible refine Guard_split (fun h => ?_) (fun h => ?_) | with_reducible refine IfB_split (fun h => ?_) (fun h => ?_))
    exact hK _ _ rfl
  by_cases hm : o.may
  rotate_left
  · rw [ordE_bad hm] at ck
    repeat' (first | simp only [go_sem, Nat.reduceLT, Nat.reduceEqDiff, Nat.reduceAdd, Nat.reduceMul, Nat.reduceSub, Nat.reduceLeDiff, Int.reduceToNat, Int.reduceNeg, Int.reduceLT, Int.reduceLE, Int.reduceEq, reduceCtorEq, Int.natCast_zero, Int.natCast_one, Int.cast_ofNat_Int, Bool.not_not, false_eq_decide, true_eq_decide, hread0, hreadk, read_cons0, read_consk, astore_h0, astore_hk, hget0, hgetk, hset0, hsetk, hlen, hcat, Nat.add_assoc, Nat.add_zero, Nat.zero_add, List.length_append, and_true, true_and, AV.flat, *, -hK, -ck, -ad, -ht, -dl, -hlen, -hf, -hi1, -hi2, -hm] | refine WC.call (ck _) ?_ | with_reducible refine IfB_dec (fun h => ?_) (fun h => ?_) | with_reducible refine Guard_dec (fun h => ?_) (fun h => ?_) | with_reducible refine Guard_ndec (fun h => ?_) (fun h => ?_) | with_reducible refine Guard_not (fun h => ?_) (fun h => ?_) | with_reducible refine IfB_ndec (fun h => ?_) (fun h => ?_) | with_reducible refine IfB_not (fun h => ?_) (fun h => ?_) | with_reducible refine Guard_split (fun h => ?_) (fun h => ?_) | with_reducible refine IfB_split (fun h => ?_) (fun h => ?_))
    exact hK _ _ rfl
  rw [ordE_ok hm] at ck
  have htot := may_tot hm
  have w1 : IntKind.i64.wrap ((o.t.length : Int) + o.k.length) = (o.t.length : Int) + o.k.length := by rw [IntKind.wrap_i64]; omega
  by_cases hE : addE o key = 0
  · obtain ⟨a1, a2, a3, a4⟩ := addO_may hE
    have cka := fun J => check_spec (addO o key) (may_fit a1) J
    rw [ordE_ok a1] at cka
    have hsa := fun J => has_spec (addO o key) (may_fit a1) key J
    rw [count_one a1 (by rw [a2]; exact .head _)] at hsa
    have kpa := fun J => keeps_true o (addO o key) hf (may_fit a1) [] (fun x hx _ => count_one a1 (by rw [a2]; exact .tail _ hx)) J
    have wsa : IntKind.i64.wrap (((addO o key).t.length : Int) + (addO o key).k.length) = (o.t.length : Int) + o.k.length + 1 := by rw [a2]; simp only [List.length_cons]; unfold tot at htot; rw [IntKind.wrap_i64]; omega
    have wp1 : IntKind.i64.wrap ((o.t.length : Int) + o.k.length + 1) = (o.t.length : Int) + o.k.length + 1 := by unfold tot at htot; rw [IntKind.wrap_i64]; omega
    rw [hE] at ad
    clear a2 hE
    generalize hga : addO o key = oa at *
    unfold Ord.av at cka hsa kpa
    repeat' (first | simp only [go_sem, Nat.reduceLT, Nat.reduceEqDiff, Nat.reduceAdd, Nat.reduceMul, Nat.reduceSub, Nat.reduceLeDiff, Int.reduceToNat, Int.reduceNeg, Int.reduceLT, Int.reduceLE, Int.reduceEq, reduceCtorEq, Int.natCast_zero, Int.natCast_one, Int.cast_ofNat_Int, Bool.not_not, false_eq_decide, true_eq_decide, hread0, hreadk, read_cons0, read_consk, astore_h0, astore_hk, hget0, hgetk, hset0, hsetk, hlen, hcat, Nat.add_assoc, Nat.add_zero, Nat.zero_add, List.length_append, and_true, true_and, AV.flat, *, -hK, -ck, -ad, -ht, -dl, -hlen, -hf, -hi1, -hi2, -hm, -htot, -cka, -hsa, -kpa, -a1, -a3, -a4, -hga] | refine WC.call (ck _) ?_ | refine WC.call (ad _) ?_ | refine WC.call (cka _) ?_ | refine WC.call (hsa _) ?_ | refine WC.call (kpa _) ?_ | with_reducible refine IfB_dec (fun h => ?_) (fun h => ?_) | with_reducible refine Guard_dec (fun h => ?_) (fun h => ?_) | with_reducible refine Guard_ndec (fun h => ?_) (fun h => ?_) | with_reducible refine Guard_not (fun h => ?_) (fun h => ?_) | with_reducible refine IfB_ndec (fun h => ?_) (fun h => ?_) | with_reducible refine IfB_not (fun h => ?_) (fun h => ?_) | with_reducible refine Guard_split (fun h => ?_) (fun h => ?_) | with_reducible refine IfB_split (fun h => ?_) (fun h => ?_))
    clear ck ad cka hsa kpa wsa
    by_cases hin : key ∈ keysO o
    · obtain ⟨e1, e2, e3, e4, e5, k2, e6⟩ := hit_ok hm hin
      obtain ⟨-, d2, d3, d4, d5⟩ := del_ok hm hin
      have vc := fun J => Victim_spec (hitO o key) (may_fit e3) J
      rw [show vicS (hitO o key) = (vicO (hitO o key)).1 from if_pos e3, show vicE (hitO o key) = if (vicO (hitO o key)).2 = true then 0 else 6 from if_pos e3, vicO_tot (by rw [e5]; unfold tot; have := List.length_pos_of_mem hin; unfold keysO at this; rw [List.length_append] at this; omega), if_pos rfl] at vc
      have vne := fun h => vic_ne e3 e6 h
      have ckh := fun J => check_spec (hitO o key) (may_fit e3) J
      have ckd := fun J => check_spec (delO o key) (may_fit d2) J
      rw [ordE_ok e3] at ckh
      rw [ordE_ok d2] at ckd
      have hsh := fun J => has_spec (hitO o key) (may_fit e3) key J
      have hsd := fun J => has_spec (delO o key) (may_fit d2) key J
      have hso := fun J => has_spec o hf key J
      rw [count_one e3 (e4.mem_iff.2 hin)] at hsh
      rw [count_zero d4] at hsd
      rw [count_one hm hin] at hso
      have kph := fun J => keeps_true o (hitO o key) hf (may_fit e3) [] (fun x hx _ => count_one e3 (e4.mem_iff.2 hx)) J
      have kpd := fun J => keeps_true o (delO o key) hf (may_fit d2) key (fun x hx hne => count_one d2 (d5 x hx hne)) J
      have hhl : (1 : Int) ≤ (hitO o key).k.length := by rw [e6, List.length_cons]; omega
      have e0 := at_enc (E := Enc.str) (T := T) (xs := (hitO o key).k) (i := 0) (k := .i64) (z := 0) se22 (by rw [e6]; simp) rfl
      rw [str_cells] at e0
      simp only [e6, List.getElem_cons_zero] at e0
      rw [← e6] at e0
      rw [e1] at ht dl
      have wsum : IntKind.i64.wrap (((hitO o key).t.length : Int) + (hitO o key).k.length) = (o.t.length : Int) + o.k.length := by unfold tot at e5; rw [IntKind.wrap_i64]; omega
      have wsum2 : IntKind.i64.wrap (((delO o key).t.length : Int) + (delO o key).k.length) = (o.t.length : Int) + o.k.length - 1 := by unfold tot at d3; rw [IntKind.wrap_i64]; omega
      have wm1 : IntKind.i64.wrap ((o.t.length : Int) + o.k.length - 1) = (o.t.length : Int) + o.k.length - 1 := by rw [IntKind.wrap_i64]; omega
      have hnl : ¬ ((hitO o key).k.length : Int) < 1 := by omega
      have vne2 : (o.t.length : Int) + o.k.length > 1 → (vicO (hitO o key)).1 ≠ key := fun h => vne (by rw [e5]; unfold tot; omega)
      clear vne e2 e4 e5 e6 d3 d4 d5 hhl
      generalize hgx : hitO o key = x at *
      generalize hgy : delO o key = y at *
      generalize (vicO x).1 = vs at *
      unfold Ord.av at *
      by_cases hv1 : vs = key
      · have hn1 : ¬ ((o.t.length : Int) + o.k.length > 1) := fun h => vne2 h hv1
        clear vne2
        repeat' (first | simp only [go_sem, Nat.reduceLT, Nat.reduceEqDiff, Nat.reduceAdd, Nat.reduceMul, Nat.reduceSub, Nat.reduceLeDiff, Int.reduceToNat, Int.reduceNeg, Int.reduceLT, Int.reduceLE, Int.reduceEq, reduceCtorEq, Int.natCast_zero, Int.natCast_one, Int.cast_ofNat_Int, Bool.not_not, false_eq_decide, true_eq_decide, hread0, hreadk, read_cons0, read_consk, astore_h0, astore_hk, hget0, hgetk, hset0, hsetk, hlen, hcat, Nat.add_assoc, Nat.add_zero, Nat.zero_add, List.length_append, and_true, true_and, AV.flat, *, -hK, -ht, -dl, -vc, -ckh, -ckd, -hsh, -hsd, -hso, -kph, -kpd, -hm, -hf, -hin, -htot, -e3, -d2, -e1, -hlen, -hi1, -hi2, -hgx, -hgy, -a1, -a3, -a4, -hga] | refine WC.call (ht _) ?_ | refine WC.call (vc _) ?_ | refine WC.call (ckh _) ?_ | refine WC.call (hsh _) ?_ | refine WC.call (kph _) ?_ | refine WC.call (dl _) ?_ | refine WC.call (ckd _) ?_ | refine WC.call (hsd _) ?_ | refine WC.call (kpd _) ?_ | refine WC.call (hso _) ?_ | with_reducible refine IfB_dec (fun h => ?_) (fun h => ?_) | with_reducible refine Guard_dec (fun h => ?_) (fun h => ?_) | with_reducible refine Guard_ndec (fun h => ?_) (fun h => ?_) | with_reducible refine Guard_not (fun h => ?_) (fun h => ?_) | with_reducible refine IfB_ndec (fun h => ?_) (fun h => ?_) | with_reducible refine IfB_not (fun h => ?_) (fun h => ?_) | with_reducible refine Guard_split (fun h => ?_) (fun h => ?_) | with_reducible refine IfB_split (fun h => ?_) (fun h => ?_))
        exact hK _ _ rfl
      · clear vne2
        repeat' (first | simp only [go_sem, Nat.reduceLT, Nat.reduceEqDiff, Nat.reduceAdd, Nat.reduceMul, Nat.reduceSub, Nat.reduceLeDiff, Int.reduceToNat, Int.reduceNeg, Int.reduceLT, Int.reduceLE, Int.reduceEq, reduceCtorEq, Int.natCast_zero, Int.natCast_one, Int.cast_ofNat_Int, Bool.not_not, false_eq_decide, true_eq_decide, hread0, hreadk, read_cons0, read_consk, astore_h0, astore_hk, hget0, hgetk, hset0, hsetk, hlen, hcat, Nat.add_assoc, Nat.add_zero, Nat.zero_add, List.length_append, and_true, true_and, AV.flat, *, -hK, -ht, -dl, -vc, -ckh, -ckd, -hsh, -hsd, -hso, -kph, -kpd, -hm, -hf, -hin, -htot, -e3, -d2, -e1, -hlen, -hi1, -hi2, -hgx, -hgy, -a1, -a3, -a4, -hga] | refine WC.call (ht _) ?_ | refine WC.call (vc _) ?_ | refine WC.call (ckh _) ?_ | refine WC.call (hsh _) ?_ | refine WC.call (kph _) ?_ | refine WC.call (dl _) ?_ | refine WC.call (ckd _) ?_ | refine WC.call (hsd _) ?_ | refine WC.call (kpd _) ?_ | refine WC.call (hso _) ?_ | with_reducible refine IfB_dec (fun h => ?_) (fun h => ?_) | with_reducible refine Guard_dec (fun h => ?_) (fun h => ?_) | with_reducible refine Guard_ndec (fun h => ?_) (fun h => ?_) | with_reducible refine Guard_not (fun h => ?_) (fun h => ?_) | with_reducible refine IfB_ndec (fun h => ?_) (fun h => ?_) | with_reducible refine IfB_not (fun h => ?_) (fun h => ?_) | with_reducible refine Guard_split (fun h => ?_) (fun h => ?_) | with_reducible refine IfB_split (fun h => ?_) (fun h => ?_))
        exact hK _ _ rfl
    · have hno := hit_no hm hin
      have hso := fun J => has_spec o hf key J
      rw [count_zero hin] at hso
      generalize hitE o key = eh at *
      generalize hitO o key = x at *
      generalize delO o key = y at *
      unfold Ord.av at *
      repeat' (first | simp only [go_sem, Nat.reduceLT, Nat.reduceEqDiff, Nat.reduceAdd, Nat.reduceMul, Nat.reduceSub, Nat.reduceLeDiff, Int.reduceToNat, Int.reduceNeg, Int.reduceLT, Int.reduceLE, Int.reduceEq, reduceCtorEq, Int.natCast_zero, Int.natCast_one, Int.cast_ofNat_Int, Bool.not_not, false_eq_decide, true_eq_decide, hread0, hreadk, read_cons0, read_consk, astore_h0, astore_hk, hget0, hgetk, hset0, hsetk, hlen, hcat, Nat.add_assoc, Nat.add_zero, Nat.zero_add, List.length_append, and_true, true_and, AV.flat, *, -hK, -ht, -dl, -hso, -hm, -hf, -hin, -htot, -hlen, -hi1, -hi2, -a1, -a3, -a4, -hga] | refine WC.call (ht _) ?_ | refine WC.call (dl _) ?_ | refine WC.call (hso _) ?_ | with_reducible refine IfB_dec (fun h => ?_) (fun h => ?_) | with_reducible refine Guard_dec (fun h => ?_) (fun h => ?_) | with_reducible refine Guard_ndec (fun h => ?_) (fun h => ?_) | with_reducible refine Guard_not (fun h => ?_) (fun h => ?_) | with_reducible refine IfB_ndec (fun h => ?_) (fun h => ?_) | with_reducible refine IfB_not (fun h => ?_) (fun h => ?_) | with_reducible refine Guard_split (fun h => ?_) (fun h => ?_) | with_reducible refine IfB_split (fun h => ?_) (fun h => ?_))
      exact hK _ _ rfl
  · generalize addO o key = oa at *
    generalize addE o key = ea at *
    repeat' (first | simp only [go_sem, Nat.reduceLT, Nat.reduceEqDiff, Nat.reduceAdd, Nat.reduceMul, Nat.reduceSub, Nat.reduceLeDiff, Int.reduceToNat, Int.reduceNeg, Int.reduceLT, Int.reduceLE, Int.reduceEq, reduceCtorEq, Int.natCast_zero, Int.natCast_one, Int.cast_ofNat_Int, Bool.not_not, false_eq_decide, true_eq_decide, hread0, hreadk, read_cons0, read_consk, astore_h0, astore_hk, hget0, hgetk, hset0, hsetk, hlen, hcat, Nat.add_assoc, Nat.add_zero, Nat.zero_add, List.length_append, and_true, true_and, AV.flat, *, -hK, -ck, -ad, -ht, -dl, -hlen, -hf, -hi1, -hi2, -hm, -htot] | refine WC.call (ck _) ?_ | refine WC.call (ad _) ?_ | with_reducible refine IfB_dec (fun h => ?_) (fun h => ?_) | with_reducible refine Guard_dec (fun h => ?_) (fun h => ?_) | with_reducible refine Guard_ndec (fun h => ?_) (fun h => ?_) | with_reducible refine Guard_not (fun h => ?_) (fun h => ?_) | with_reducible refine IfB_ndec (fun h => ?_) (fun h => ?_) | with_reducible refine IfB_not (fun h => ?_) (fun h => ?_) | with_reducible refine Guard_split (fun h => ?_) (fun h => ?_) | with_reducible refine IfB_split (fun h => ?_) (fun h => ?_))
    clear ck ad
    by_cases hin : key ∈ keysO o
    · obtain ⟨e1, e2, e3, e4, e5, k2, e6⟩ := hit_ok hm hin
      obtain ⟨-, d2, d3, d4, d5⟩ := del_ok hm hin
      have vc := fun J => Victim_spec (hitO o key) (may_fit e3) J
      rw [show vicS (hitO o key) = (vicO (hitO o key)).1 from if_pos e3, show vicE (hitO o key) = if (vicO (hitO o key)).2 = true then 0 else 6 from if_pos e3, vicO_tot (by rw [e5]; unfold tot; have := List.length_pos_of_mem hin; unfold keysO at this; rw [List.length_append] at this; omega), if_pos rfl] at vc
      have vne := fun h => vic_ne e3 e6 h
      have ckh := fun J => check_spec (hitO o key) (may_fit e3) J
      have ckd := fun J => check_spec (delO o key) (may_fit d2) J
      rw [ordE_ok e3] at ckh
      rw [ordE_ok d2] at ckd
      have hsh := fun J => has_spec (hitO o key) (may_fit e3) key J
      have hsd := fun J => has_spec (delO o key) (may_fit d2) key J
      have hso := fun J => has_spec o hf key J
      rw [count_one e3 (e4.mem_iff.2 hin)] at hsh
      rw [count_zero d4] at hsd
      rw [count_one hm hin] at hso
      have kph := fun J => keeps_true o (hitO o key) hf (may_fit e3) [] (fun x hx _ => count_one e3 (e4.mem_iff.2 hx)) J
      have kpd := fun J => keeps_true o (delO o key) hf (may_fit d2) key (fun x hx hne => count_one d2 (d5 x hx hne)) J
      have hhl : (1 : Int) ≤ (hitO o key).k.length := by rw [e6, List.length_cons]; omega
      have e0 := at_enc (E := Enc.str) (T := T) (xs := (hitO o key).k) (i := 0) (k := .i64) (z := 0) se22 (by rw [e6]; simp) rfl
      rw [str_cells] at e0
      simp only [e6, List.getElem_cons_zero] at e0
      rw [← e6] at e0
      rw [e1] at ht dl
      have wsum : IntKind.i64.wrap (((hitO o key).t.length : Int) + (hitO o key).k.length) = (o.t.length : Int) + o.k.length := by unfold tot at e5; rw [IntKind.wrap_i64]; omega
      have wsum2 : IntKind.i64.wrap (((delO o key).t.length : Int) + (delO o key).k.length) = (o.t.length : Int) + o.k.length - 1 := by unfold tot at d3; rw [IntKind.wrap_i64]; omega
      have wm1 : IntKind.i64.wrap ((o.t.length : Int) + o.k.length - 1) = (o.t.length : Int) + o.k.length - 1 := by rw [IntKind.wrap_i64]; omega
      have hnl : ¬ ((hitO o key).k.length : Int) < 1 := by omega
      have vne2 : (o.t.length : Int) + o.k.length > 1 → (vicO (hitO o key)).1 ≠ key := fun h => vne (by rw [e5]; unfold tot; omega)
      clear vne e2 e4 e5 e6 d3 d4 d5 hhl
      generalize hgx : hitO o key = x at *
      generalize hgy : delO o key = y at *
      generalize (vicO x).1 = vs at *
      unfold Ord.av at *
      by_cases hv1 : vs = key
      · have hn1 : ¬ ((o.t.length : Int) + o.k.length > 1) := fun h => vne2 h hv1
        clear vne2
        repeat' (first | simp only [go_sem, Nat.reduceLT, Nat.reduceEqDiff, Nat.reduceAdd, Nat.reduceMul, Nat.reduceSub, Nat.reduceLeDiff, Int.reduceToNat, Int.reduceNeg, Int.reduceLT, Int.reduceLE, Int.reduceEq, reduceCtorEq, Int.natCast_zero, Int.natCast_one, Int.cast_ofNat_Int, Bool.not_not, false_eq_decide, true_eq_decide, hread0, hreadk, read_cons0, read_consk, astore_h0, astore_hk, hget0, hgetk, hset0, hsetk, hlen, hcat, Nat.add_assoc, Nat.add_zero, Nat.zero_add, List.length_append, and_true, true_and, AV.flat, *, -hK, -ht, -dl, -vc, -ckh, -ckd, -hsh, -hsd, -hso, -kph, -kpd, -hm, -hf, -hin, -htot, -e3, -d2, -e1, -hlen, -hi1, -hi2, -hgx, -hgy] | refine WC.call (ht _) ?_ | refine WC.call (vc _) ?_ | refine WC.call (ckh _) ?_ | refine WC.call (hsh _) ?_ | refine WC.call (kph _) ?_ | refine WC.call (dl _) ?_ | refine WC.call (ckd _) ?_ | refine WC.call (hsd _) ?_ | refine WC.call (kpd _) ?_ | refine WC.call (hso _) ?_ | with_reducible refine IfB_dec (fun h => ?_) (fun h => ?_) | with_reducible refine Guard_dec (fun h => ?_) (fun h => ?_) | with_reducible refine Guard_ndec (fun h => ?_) (fun h => ?_) | with_reducible refine Guard_not (fun h => ?_) (fun h => ?_) | with_reducible refine IfB_ndec (fun h => ?_) (fun h => ?_) | with_reducible refine IfB_not (fun h => ?_) (fun h => ?_) | with_reducible refine Guard_split (fun h => ?_) (fun h => ?_) | with_reducible refine IfB_split (fun h => ?_) (fun h => ?_))
        exact hK _ _ rfl
      · clear vne2
        repeat' (first | simp only [go_sem, Nat.reduceLT, Nat.reduceEqDiff, Nat.reduceAdd, Nat.reduceMul, Nat.reduceSub, Nat.reduceLeDiff, Int.reduceToNat, Int.reduceNeg, Int.reduceLT, Int.reduceLE, Int.reduceEq, reduceCtorEq, Int.natCast_zero, Int.natCast_one, Int.cast_ofNat_Int, Bool.not_not, false_eq_decide, true_eq_decide, hread0, hreadk, read_cons0, read_consk, astore_h0, astore_hk, hget0, hgetk, hset0, hsetk, hlen, hcat, Nat.add_assoc, Nat.add_zero, Nat.zero_add, List.length_append, and_true, true_and, AV.flat, *, -hK, -ht, -dl, -vc, -ckh, -ckd, -hsh, -hsd, -hso, -kph, -kpd, -hm, -hf, -hin, -htot, -e3, -d2, -e1, -hlen, -hi1, -hi2, -hgx, -hgy] | refine WC.call (ht _) ?_ | refine WC.call (vc _) ?_ | refine WC.call (ckh _) ?_ | refine WC.call (hsh _) ?_ | refine WC.call (kph _) ?_ | refine WC.call (dl _) ?_ | refine WC.call (ckd _) ?_ | refine WC.call (hsd _) ?_ | refine WC.call (kpd _) ?_ | refine WC.call (hso _) ?_ | with_reducible refine IfB_dec (fun h => ?_) (fun h => ?_) | with_reducible refine Guard_dec (fun h => ?_) (fun h => ?_) | with_reducible refine Guard_ndec (fun h => ?_) (fun h => ?_) | with_reducible refine Guard_not (fun h => ?_) (fun h => ?_) | with_reducible refine IfB_ndec (fun h => ?_) (fun h => ?_) | with_reducible refine IfB_not (fun h => ?_) (fun h => ?_) | with_reducible refine Guard_split (fun h => ?_) (fun h => ?_) | with_reducible refine IfB_split (fun h => ?_) (fun h => ?_))
        exact hK _ _ rfl
    · have hno := hit_no hm hin
      have hso := fun J => has_spec o hf key J
      rw [count_zero hin] at hso
      generalize hitE o key = eh at *
      generalize hitO o key = x at *
      generalize delO o key = y at *
      unfold Ord.av at *
      repeat' (first | simp only [go_sem, Nat.reduceLT, Nat.reduceEqDiff, Nat.reduceAdd, Nat.reduceMul, Nat.reduceSub, Nat.reduceLeDiff, Int.reduceToNat, Int.reduceNeg, Int.reduceLT, Int.reduceLE, Int.reduceEq, reduceCtorEq, Int.natCast_zero, Int.natCast_one, Int.cast_ofNat_Int, Bool.not_not, false_eq_decide, true_eq_decide, hread0, hreadk, read_cons0, read_consk, astore_h0, astore_hk, hget0, hgetk, hset0, hsetk, hlen, hcat, Nat.add_assoc, Nat.add_zero, Nat.zero_add, List.length_append, and_true, true_and, AV.flat, *, -hK, -ht, -dl, -hso, -hm, -hf, -hin, -htot, -hlen, -hi1, -hi2] | refine WC.call (ht _) ?_ | refine WC.call (dl _) ?_ | refine WC.call (hso _) ?_ | with_reducible refine IfB_dec (fun h => ?_) (fun h => ?_) | with_reducible refine Guard_dec (fun h => ?_) (fun h => ?_) | with_reducible refine Guard_ndec (fun h => ?_) (fun h => ?_) | with_reducible refine Guard_not (fun h => ?_) (fun h => ?_) | with_reducible refine IfB_ndec (fun h => ?_) (fun h => ?_) | with_reducible refine IfB_not (fun h => ?_) (fun h => ?_) | with_reducible refine Guard_split (fun h => ?_) (fun h => ?_) | with_reducible refine IfB_split (fun h => ?_) (fun h => ?_))
      exact hK _ _ rfl
end Go.Proofs.Ytakllaigpjbgdaa
