import Derived.Test.YtccfhighlpfdmaaTrkF2
import Derived.Test.YtccfhighlpfdmaaTrackV
set_option linter.unusedSimpArgs false
set_option linter.unusedVariables false
set_option maxRecDepth 100000
set_option maxHeartbeats 4000000
namespace Go.Proofs.Ytccfhighlpfdmaa
open Go Go.Proofs Go.Proofs.PI
def leftL (hv P : List Pu) : List Pu := hv.filter fun p => !decide (p ∈ P)
theorem leftL_step {hv P : List Pu} {k : Nat} (h : k < hv.length) : leftL (hv.take (k + 1)) P = leftL (hv.take k) P ++ if hv[k] ∈ P then [] else [hv[k]] := by
  unfold leftL
  rw [List.take_succ_eq_append_getElem h, List.filter_append]; congr 1
  by_cases hh : hv[k] ∈ P <;> simp [hh]
theorem memP_step {P : List Pu} {k : Nat} (h : k < P.length) (p : Pu) : decide (p ∈ P.take (k + 1)) = (decide (p ∈ P.take k) || decide (P[k] = p)) := by
  rw [List.take_succ_eq_append_getElem h, Bool.eq_iff_iff]
  simp only [decide_eq_true_eq, Bool.or_eq_true, List.mem_append, List.mem_singleton]
  exact or_congr Iff.rfl eq_comm
/-- A list of pushes as a value. -/
def PV (pv : AV) (P : List Pu) : Prop := pv = puE.lst P ∨ (pv = .nils ∧ P = [])
theorem PV.len {pv : AV} {P : List Pu} (h : PV pv P) : alen T 31 pv = some (.int .i64 P.length) := by
  rcases h with rfl | ⟨rfl, rfl⟩
  · rw [alen_enc, tk31]
  · simp only [alen, tk31]; rfl
theorem PV.at_ {pv : AV} {P : List Pu} (h : PV pv P) {i : Nat} (hi : i < P.length) : aindexAddr T 31 pv (.int .i64 i) = some (.cptr (puE.cells P[i])) := by
  rcases h with rfl | ⟨rfl, rfl⟩
  · exact at_enc (E := puE) (T := T) (k := .i64) se31 hi rfl
  · simp at hi
theorem PV.one {pv : AV} {P : List Pu} (h : PV pv P) : pv.one = true := by
  rcases h with rfl | ⟨rfl, rfl⟩ <;> rfl
theorem trackNever_walk (avs : List AV) (h : InpPAll T 9 [3, 64] avs) : WC Try.prog 6 avs [] fun v _ => v = .bool true := by
  obtain ⟨a0, _, rfl, h0, h⟩ := h.cons
  obtain ⟨a1, _, rfl, h1, h⟩ := h.cons
  obtain rfl := h.nil
  obtain ⟨n, rfl, -⟩ := InpPV.int tk3 h0
  obtain ⟨l, rfl, hok, hln⟩ := inp_acts h1
  clear h0 h1 h
  generalize ([] : Heap) = H
  refine WC_of_K fun K hK => ?_
  have nw := fun J => new_spec n J
  unfold trAv at *
  by_cases hn : 1 ≤ n ∧ n ≤ 8
  rotate_left
  · rw [show trNew n = ([], 2) by unfold trNew; rw [if_neg hn]] at nw
    refine WC_of_body hT Try.func6 rfl (by simp [Try.f6]) (by simp [Try.f6]) (wx_sound hT _ ?_)
    simp only [Try.f6]
    repeat' (first | simp only [go_sem, Nat.reduceLT, Nat.reduceEqDiff, Nat.reduceAdd, Nat.reduceMul, Nat.reduceSub, Nat.reduceLeDiff, Int.reduceToNat, Int.reduceNeg, Int.reduceLT, Int.reduceLE, Int.reduceEq, reduceCtorEq, Int.natCast_zero, Int.natCast_one, Int.cast_ofNat_Int, Bool.not_not, false_eq_decide, true_eq_decide, hread0, hreadk, read_cons0, read_consk, astore_h0, astore_hk, hget0, hgetk, hset0, hsetk, hlen, hcat, Nat.add_assoc, Nat.add_zero, Nat.zero_add, List.length_append, and_true, true_and, AV.flat, *, -hK, -nw, -hok, -hn] | refine WC.call (alive_spec _) ?_ | refine WC.call (nw _) ?_ | with_reducible refine IfB_dec (fun h => ?_) (fun h => ?_) | with_reducible refine Guard_dec (fun h => ?_) (fun h => ?_) | with_reducible refine Guard_ndec (fun h => ?_) (fun h => ?_) | with_reducible refine Guard_not (fun h => ?_) (fun h => ?_) | with_reducible refine IfB_ndec (fun h => ?_) (fun h => ?_) | with_reducible refine IfB_not (fun h => ?_) (fun h => ?_) | with_reducible refine Guard_split (fun h => ?_) (fun h => ?_) | with_reducible refine IfB_split (fun h => ?_) (fun h => ?_))
    exact hK _ _ rfl
  rw [show trNew n = (List.replicate n.toNat ⟨false, []⟩, 0) by unfold trNew; rw [if_pos hn]] at nw
  simp only at nw
  by_cases h60 : (l.length : Int) > 60
  · skip
    refine WC_of_body hT Try.func6 rfl (by simp [Try.f6]) (by simp [Try.f6]) (wx_sound hT _ ?_)
    simp only [Try.f6]
    repeat' (first | simp only [go_sem, Nat.reduceLT, Nat.reduceEqDiff, Nat.reduceAdd, Nat.reduceMul, Nat.reduceSub, Nat.reduceLeDiff, Int.reduceToNat, Int.reduceNeg, Int.reduceLT, Int.reduceLE, Int.reduceEq, reduceCtorEq, Int.natCast_zero, Int.natCast_one, Int.cast_ofNat_Int, Bool.not_not, false_eq_decide, true_eq_decide, hread0, hreadk, read_cons0, read_consk, astore_h0, astore_hk, hget0, hgetk, hset0, hsetk, hlen, hcat, Nat.add_assoc, Nat.add_zero, Nat.zero_add, List.length_append, and_true, true_and, AV.flat, *, -hK, -nw, -hok, -hn] | refine WC.call (alive_spec _) ?_ | refine WC.call (nw _) ?_ | with_reducible refine IfB_dec (fun h => ?_) (fun h => ?_) | with_reducible refine Guard_dec (fun h => ?_) (fun h => ?_) | with_reducible refine Guard_ndec (fun h => ?_) (fun h => ?_) | with_reducible refine Guard_not (fun h => ?_) (fun h => ?_) | with_reducible refine IfB_ndec (fun h => ?_) (fun h => ?_) | with_reducible refine IfB_not (fun h => ?_) (fun h => ?_) | with_reducible refine Guard_split (fun h => ?_) (fun h => ?_) | with_reducible refine IfB_split (fun h => ?_) (fun h => ?_))
    exact hK _ _ rfl
  have hm0 : trMay (List.replicate n.toNat ⟨false, []⟩) := by
    refine ⟨by rw [List.length_replicate]; omega, by rw [List.length_replicate]; omega, fun t ht => ?_⟩
    rw [List.eq_of_mem_replicate ht]
    exact ⟨⟨.inr rfl, by simp⟩, by simp, by simp⟩
  generalize List.replicate n.toNat (⟨false, []⟩ : Tk) = ts0 at *
  clear hn
  refine WC_of_body hT Try.func6 rfl (by simp [Try.f6]) (by simp [Try.f6]) (wx_sound hT _ ?_)
  simp only [Try.f6]
  repeat' (first | simp only [go_sem, Nat.reduceLT, Nat.reduceEqDiff, Nat.reduceAdd, Nat.reduceMul, Nat.reduceSub, Nat.reduceLeDiff, Int.reduceToNat, Int.reduceNeg, Int.reduceLT, Int.reduceLE, Int.reduceEq, reduceCtorEq, Int.natCast_zero, Int.natCast_one, Int.cast_ofNat_Int, Bool.not_not, false_eq_decide, true_eq_decide, hread0, hreadk, read_cons0, read_consk, astore_h0, astore_hk, hget0, hgetk, hset0, hsetk, hlen, hcat, Nat.add_assoc, Nat.add_zero, Nat.zero_add, List.length_append, and_true, true_and, AV.flat, *, -hK, -nw, -hok, -hm0] | refine WC.call (alive_spec _) ?_ | refine WC.call (nw _) ?_ | with_reducible refine IfB_dec (fun h => ?_) (fun h => ?_) | with_reducible refine Guard_dec (fun h => ?_) (fun h => ?_) | with_reducible refine Guard_ndec (fun h => ?_) (fun h => ?_) | with_reducible refine Guard_not (fun h => ?_) (fun h => ?_) | with_reducible refine IfB_ndec (fun h => ?_) (fun h => ?_) | with_reducible refine IfB_not (fun h => ?_) (fun h => ?_) | with_reducible refine Guard_split (fun h => ?_) (fun h => ?_) | with_reducible refine IfB_split (fun h => ?_) (fun h => ?_))
  clear nw
  refine WX_loopS [1, 5, 6] (fun k fr' J => ∃ (i : Nat) (ts : List Tk) (hv : List Pu) (v : AV), k = l.length - i ∧ i ≤ l.length ∧ fr'.get 9 = .int .i64 i ∧ fr'.get 8 = v ∧ J[H.length]? = some (⟨[tkE.lst ts], 0, .full⟩ : Blk) ∧ OwnE puE (H.length + 1) J v hv ∧ trMay ts ∧ (∀ p ∈ hv, hasP ts p) ∧ hv.length ≤ i ∧ H.length + 1 ≤ J.length) l.length ⟨0, ts0, [], .nils, rfl, by omega, by simp only [go_sem, Nat.reduceLT, Nat.reduceEqDiff, Nat.reduceAdd, Nat.reduceMul, Nat.reduceSub, Nat.reduceLeDiff, Int.reduceToNat, Int.reduceNeg, Int.reduceLT, Int.reduceLE, Int.reduceEq, reduceCtorEq]; rfl, by simp only [go_sem, Nat.reduceLT, Nat.reduceEqDiff, Nat.reduceAdd, Nat.reduceMul, Nat.reduceSub, Nat.reduceLeDiff, Int.reduceToNat, Int.reduceNeg, Int.reduceLT, Int.reduceLE, Int.reduceEq, reduceCtorEq], by simp, OwnE.nils _ _ _, hm0, by simp, by simp, by simp⟩ ?_
  clear hm0
  rintro k fr' J A R hA hs hg hR ⟨i, ts, hv, v, rfl, hi, f9, f8, gt, ov, hm, hinv, hvl, hJ⟩
  have s1 := hg 1 (by decide)
  have s5 := hg 5 (by decide)
  have s6 := hg 6 (by decide)
  simp only [Fr.get_put, Fr.get_init, List.getD_cons_zero, List.getD_cons_succ, Nat.reduceEqDiff, if_true, if_false] at s1 s5 s6
  refine wx_sound hT _ ?_
  have hvo := ov.one
  by_cases hlt : i < l.length
  rotate_left
  · have i1 : ¬ (i : Int) < l.length := by omega
    repeat' (first | simp only [go_sem, Nat.reduceLT, Nat.reduceEqDiff, Nat.reduceAdd, Nat.reduceMul, Nat.reduceSub, Nat.reduceLeDiff, Int.reduceToNat, Int.reduceNeg, Int.reduceLT, Int.reduceLE, Int.reduceEq, reduceCtorEq, Int.natCast_zero, Int.natCast_one, Int.cast_ofNat_Int, Bool.not_not, false_eq_decide, true_eq_decide, hread0, hreadk, read_cons0, read_consk, astore_h0, astore_hk, hget0, hgetk, hset0, hsetk, hlen, hcat, Nat.add_assoc, Nat.add_zero, Nat.zero_add, List.length_append, and_true, true_and, AV.flat, *, -hK, -hok, -gt, -ov, -hm, -hinv, -hvl, -hJ] | with_reducible refine IfB_dec (fun h => ?_) (fun h => ?_) | with_reducible refine Guard_dec (fun h => ?_) (fun h => ?_) | with_reducible refine Guard_ndec (fun h => ?_) (fun h => ?_) | with_reducible refine Guard_not (fun h => ?_) (fun h => ?_) | with_reducible refine IfB_ndec (fun h => ?_) (fun h => ?_) | with_reducible refine IfB_not (fun h => ?_) (fun h => ?_) | with_reducible refine Guard_split (fun h => ?_) (fun h => ?_) | with_reducible refine IfB_split (fun h => ?_) (fun h => ?_))
    exact hK _ _ rfl
  have i1 : (i : Int) < l.length := by omega
  have e1 := at_enc (E := actE) (T := T) (k := .i64) se64 hlt rfl
  rw [actE_cells] at e1
  have e3 := inc_id hlt hln
  obtain ⟨hk1, hco, hcl⟩ := hok _ (List.getElem_mem hlt)
  have back : ∀ fr2 J2 ts2 hv2 v2, A fr2 → fr2.get 9 = .int .i64 ((i + 1 : Nat) : Int) → fr2.get 8 = v2 → J2[H.length]? = some (⟨[tkE.lst ts2], 0, .full⟩ : Blk) → OwnE puE (H.length + 1) J2 v2 hv2 → trMay ts2 → (∀ p ∈ hv2, hasP ts2 p) → hv2.length ≤ i + 1 → H.length + 1 ≤ J2.length → R fr2 J2 := fun fr2 J2 ts2 hv2 v2 ha q1 q2 q3 q4 q5 q6 q7 q8 => hR fr2 J2 ha (l.length - (i + 1)) (by omega) ⟨i + 1, ts2, hv2, v2, rfl, by omega, q1, q2, q3, q4, q5, q6, q7, q8⟩
  clear hR hok
  generalize l[i] = a at *
  obtain ⟨ak, ac, at_, ay, ach⟩ := a
  simp only at e1 hk1 hco hcl
  have hvy := fun J => heavyC_spec ach hcl J
  by_cases hy : (ay.length : Int) > 1000
  · skip
    repeat' (first | simp only [go_sem, Nat.reduceLT, Nat.reduceEqDiff, Nat.reduceAdd, Nat.reduceMul, Nat.reduceSub, Nat.reduceLeDiff, Int.reduceToNat, Int.reduceNeg, Int.reduceLT, Int.reduceLE, Int.reduceEq, reduceCtorEq, Int.natCast_zero, Int.natCast_one, Int.cast_ofNat_Int, Bool.not_not, false_eq_decide, true_eq_decide, hread0, hreadk, read_cons0, read_consk, astore_h0, astore_hk, hget0, hgetk, hset0, hsetk, hlen, hcat, Nat.add_assoc, Nat.add_zero, Nat.zero_add, List.length_append, and_true, true_and, AV.flat, *, -hK, -gt, -ov, -hm, -hinv, -hvl, -hJ, -hk1, -hco, -hvy, -back] | with_reducible refine IfB_dec (fun h => ?_) (fun h => ?_) | with_reducible refine Guard_dec (fun h => ?_) (fun h => ?_) | with_reducible refine Guard_ndec (fun h => ?_) (fun h => ?_) | with_reducible refine Guard_not (fun h => ?_) (fun h => ?_) | with_reducible refine IfB_ndec (fun h => ?_) (fun h => ?_) | with_reducible refine IfB_not (fun h => ?_) (fun h => ?_) | with_reducible refine Guard_split (fun h => ?_) (fun h => ?_) | with_reducible refine IfB_split (fun h => ?_) (fun h => ?_))
    exact hK _ _ rfl
  repeat' (first | simp only [go_sem, Nat.reduceLT, Nat.reduceEqDiff, Nat.reduceAdd, Nat.reduceMul, Nat.reduceSub, Nat.reduceLeDiff, Int.reduceToNat, Int.reduceNeg, Int.reduceLT, Int.reduceLE, Int.reduceEq, reduceCtorEq, Int.natCast_zero, Int.natCast_one, Int.cast_ofNat_Int, Bool.not_not, false_eq_decide, true_eq_decide, hread0, hreadk, read_cons0, read_consk, astore_h0, astore_hk, hget0, hgetk, hset0, hsetk, hlen, hcat, Nat.add_assoc, Nat.add_zero, Nat.zero_add, List.length_append, and_true, true_and, AV.flat, *, -hK, -gt, -ov, -hm, -hinv, -hvl, -hJ, -hk1, -hco, -hvy, -back] | with_reducible refine IfB_dec (fun h => ?_) (fun h => ?_) | with_reducible refine Guard_dec (fun h => ?_) (fun h => ?_) | with_reducible refine Guard_ndec (fun h => ?_) (fun h => ?_) | with_reducible refine Guard_not (fun h => ?_) (fun h => ?_) | with_reducible refine IfB_ndec (fun h => ?_) (fun h => ?_) | with_reducible refine IfB_not (fun h => ?_) (fun h => ?_) | with_reducible refine Guard_split (fun h => ?_) (fun h => ?_) | with_reducible refine IfB_split (fun h => ?_) (fun h => ?_))
  refine (hvy _).mono ?_
  rintro r1 H1 ⟨⟨bl, rfl, hbl⟩, rfl⟩
  cases bl with
  | true =>
    repeat' (first | simp only [go_sem, Nat.reduceLT, Nat.reduceEqDiff, Nat.reduceAdd, Nat.reduceMul, Nat.reduceSub, Nat.reduceLeDiff, Int.reduceToNat, Int.reduceNeg, Int.reduceLT, Int.reduceLE, Int.reduceEq, reduceCtorEq, Int.natCast_zero, Int.natCast_one, Int.cast_ofNat_Int, Bool.not_not, false_eq_decide, true_eq_decide, hread0, hreadk, read_cons0, read_consk, astore_h0, astore_hk, hget0, hgetk, hset0, hsetk, hlen, hcat, Nat.add_assoc, Nat.add_zero, Nat.zero_add, List.length_append, and_true, true_and, AV.flat, *, -hK, -gt, -ov, -hm, -hinv, -hvl, -hJ, -hk1, -hco, -back] | with_reducible refine IfB_dec (fun h => ?_) (fun h => ?_) | with_reducible refine Guard_dec (fun h => ?_) (fun h => ?_) | with_reducible refine Guard_ndec (fun h => ?_) (fun h => ?_) | with_reducible refine Guard_not (fun h => ?_) (fun h => ?_) | with_reducible refine IfB_ndec (fun h => ?_) (fun h => ?_) | with_reducible refine IfB_not (fun h => ?_) (fun h => ?_) | with_reducible refine Guard_split (fun h => ?_) (fun h => ?_) | with_reducible refine IfB_split (fun h => ?_) (fun h => ?_))
    exact hK _ _ rfl
  | false =>
  clear hbl hvy
  by_cases h50 : (ach.length : Int) > 50
  · skip
    repeat' (first | simp only [go_sem, Nat.reduceLT, Nat.reduceEqDiff, Nat.reduceAdd, Nat.reduceMul, Nat.reduceSub, Nat.reduceLeDiff, Int.reduceToNat, Int.reduceNeg, Int.reduceLT, Int.reduceLE, Int.reduceEq, reduceCtorEq, Int.natCast_zero, Int.natCast_one, Int.cast_ofNat_Int, Bool.not_not, false_eq_decide, true_eq_decide, hread0, hreadk, read_cons0, read_consk, astore_h0, astore_hk, hget0, hgetk, hset0, hsetk, hlen, hcat, Nat.add_assoc, Nat.add_zero, Nat.zero_add, List.length_append, and_true, true_and, AV.flat, *, -hK, -gt, -ov, -hm, -hinv, -hvl, -hJ, -hk1, -hco, -back] | with_reducible refine IfB_dec (fun h => ?_) (fun h => ?_) | with_reducible refine Guard_dec (fun h => ?_) (fun h => ?_) | with_reducible refine Guard_ndec (fun h => ?_) (fun h => ?_) | with_reducible refine Guard_not (fun h => ?_) (fun h => ?_) | with_reducible refine IfB_ndec (fun h => ?_) (fun h => ?_) | with_reducible refine IfB_not (fun h => ?_) (fun h => ?_) | with_reducible refine Guard_split (fun h => ?_) (fun h => ?_) | with_reducible refine IfB_split (fun h => ?_) (fun h => ?_))
    exact hK _ _ rfl
  have hts : ∀ t ∈ ts, t.ns.length ≤ 140737488355328 := fun t ht => by have := (hm.2.2 t ht).1.2; omega
  have ht8 := hm.2.1
  have hkey : ∀ c d : List AV, (J ++ [(⟨c, 0, .full⟩ : Blk), (⟨d, 0, .full⟩ : Blk)] : Heap)[H.length]? = some (⟨[tkE.lst ts], 0, .full⟩ : Blk) := fun c d => get_app gt _
  by_cases m2 : ak.tmod 5 = 2
  · have cg := fun J => change_spec ts ach (by omega) hts hcl hco J
    unfold trAv at cg
    rcases trChg_cases ts ach hm with ⟨e0, ex⟩ | ex
    · generalize trChg ts ach = ce at *
      obtain ⟨x, e⟩ := ce
      simp only at e0 ex cg
      subst ex
      have gk := hkey [.int .u8 ak, .int .i64 ac, .int .i64 at_, .str ay, chgE.lst ach] [.nils]
      repeat' (first | simp only [go_sem, Nat.reduceLT, Nat.reduceEqDiff, Nat.reduceAdd, Nat.reduceMul, Nat.reduceSub, Nat.reduceLeDiff, Int.reduceToNat, Int.reduceNeg, Int.reduceLT, Int.reduceLE, Int.reduceEq, reduceCtorEq, Int.natCast_zero, Int.natCast_one, Int.cast_ofNat_Int, Bool.not_not, false_eq_decide, true_eq_decide, hread0, hreadk, read_cons0, read_consk, astore_h0, astore_hk, hget0, hgetk, hset0, hsetk, hlen, hcat, Nat.add_assoc, Nat.add_zero, Nat.zero_add, List.length_append, and_true, true_and, AV.flat, gk, get_app gk, read_get gk, read_app gk, *, -hK, -gt, -ov, -hm, -hinv, -hvl, -hJ, -hk1, -hco, -back, -cg, -hts, -ht8, -hkey] | with_reducible refine IfB_dec (fun h => ?_) (fun h => ?_) | with_reducible refine Guard_dec (fun h => ?_) (fun h => ?_) | with_reducible refine Guard_ndec (fun h => ?_) (fun h => ?_) | with_reducible refine Guard_not (fun h => ?_) (fun h => ?_) | with_reducible refine IfB_ndec (fun h => ?_) (fun h => ?_) | with_reducible refine IfB_not (fun h => ?_) (fun h => ?_) | with_reducible refine Guard_split (fun h => ?_) (fun h => ?_) | with_reducible refine IfB_split (fun h => ?_) (fun h => ?_))
      repeat' (first | simp only [go_sem, Nat.reduceLT, Nat.reduceEqDiff, Nat.reduceAdd, Nat.reduceMul, Nat.reduceSub, Nat.reduceLeDiff, Int.reduceToNat, Int.reduceNeg, Int.reduceLT, Int.reduceLE, Int.reduceEq, reduceCtorEq, Int.natCast_zero, Int.natCast_one, Int.cast_ofNat_Int, Bool.not_not, false_eq_decide, true_eq_decide, hread0, hreadk, read_cons0, read_consk, astore_h0, astore_hk, hget0, hgetk, hset0, hsetk, hlen, hcat, Nat.add_assoc, Nat.add_zero, Nat.zero_add, List.length_append, and_true, true_and, AV.flat, gk, get_app gk, read_get gk, read_app gk, *, -hK, -gt, -ov, -hm, -hinv, -hvl, -hJ, -hk1, -hco, -back, -cg, -hts, -ht8, -hkey] | refine WC.call (cg _) ?_ | with_reducible refine IfB_dec (fun h => ?_) (fun h => ?_) | with_reducible refine Guard_dec (fun h => ?_) (fun h => ?_) | with_reducible refine Guard_ndec (fun h => ?_) (fun h => ?_) | with_reducible refine Guard_not (fun h => ?_) (fun h => ?_) | with_reducible refine IfB_ndec (fun h => ?_) (fun h => ?_) | with_reducible refine IfB_not (fun h => ?_) (fun h => ?_) | with_reducible refine Guard_split (fun h => ?_) (fun h => ?_) | with_reducible refine IfB_split (fun h => ?_) (fun h => ?_))
      exact back _ _ ts hv v (by (repeat (first | exact hs | refine hA _ _ _ (by decide) ?_))) (by simp only [go_sem, Nat.reduceLT, Nat.reduceEqDiff, Nat.reduceAdd, Nat.reduceMul, Nat.reduceSub, Nat.reduceLeDiff, Int.reduceToNat, Int.reduceNeg, Int.reduceLT, Int.reduceLE, Int.reduceEq, reduceCtorEq]) (by simp only [go_sem, Nat.reduceLT, Nat.reduceEqDiff, Nat.reduceAdd, Nat.reduceMul, Nat.reduceSub, Nat.reduceLeDiff, Int.reduceToNat, Int.reduceNeg, Int.reduceLT, Int.reduceLE, Int.reduceEq, reduceCtorEq]; exact f8) (hkey _ _) (ov.keep0 (Keep.app none _ _)) hm hinv (by omega) (by simp; omega)
    rw [ex] at cg
    simp only at cg
    have hXp : ∀ p ∈ hv, p ∉ (runS (ts, []) ach).2 → hasP (finL ts ach) p := fun p hp hn => hasP_change hm (hinv p hp) hn
    have hXm := finL_may hm ach
    have hP8 := runS_plen hm ach
    generalize (runS (ts, []) ach).2 = P at *
    generalize finL ts ach = X at *
    have gk := hkey [.int .u8 ak, .int .i64 ac, .int .i64 at_, .str ay, chgE.lst ach] [.nils]
    repeat' (first | simp only [go_sem, Nat.reduceLT, Nat.reduceEqDiff, Nat.reduceAdd, Nat.reduceMul, Nat.reduceSub, Nat.reduceLeDiff, Int.reduceToNat, Int.reduceNeg, Int.reduceLT, Int.reduceLE, Int.reduceEq, reduceCtorEq, Int.natCast_zero, Int.natCast_one, Int.cast_ofNat_Int, Bool.not_not, false_eq_decide, true_eq_decide, hread0, hreadk, read_cons0, read_consk, astore_h0, astore_hk, hget0, hgetk, hset0, hsetk, hlen, hcat, Nat.add_assoc, Nat.add_zero, Nat.zero_add, List.length_append, and_true, true_and, AV.flat, gk, get_app gk, read_get gk, read_app gk, *, -hK, -gt, -ov, -hm, -hinv, -hvl, -hJ, -hk1, -hco, -back, -cg, -hts, -ht8, -hkey, -hXp, -hXm, -hP8] | refine WC.call (cg _) ?_ | with_reducible refine IfB_dec (fun h => ?_) (fun h => ?_) | with_reducible refine Guard_dec (fun h => ?_) (fun h => ?_) | with_reducible refine Guard_ndec (fun h => ?_) (fun h => ?_) | with_reducible refine Guard_not (fun h => ?_) (fun h => ?_) | with_reducible refine IfB_ndec (fun h => ?_) (fun h => ?_) | with_reducible refine IfB_not (fun h => ?_) (fun h => ?_) | with_reducible refine Guard_split (fun h => ?_) (fun h => ?_) | with_reducible refine IfB_split (fun h => ?_) (fun h => ?_))
    have gt2 := hkey [.int .u8 ak, .int .i64 ac, .int .i64 at_, .str ay, chgE.lst ach] [tkE.lst X]
    have gx2 : (J ++ [(⟨[.int .u8 ak, .int .i64 ac, .int .i64 at_, .str ay, chgE.lst ach], 0, .full⟩ : Blk), (⟨[tkE.lst X], 0, .full⟩ : Blk)] : Heap)[J.length + 1]? = some (⟨[tkE.lst X], 0, .full⟩ : Blk) := by rw [hgetk]; rfl
    have ov2 := ov.keep0 (Keep.app none J [(⟨[.int .u8 ak, .int .i64 ac, .int .i64 at_, .str ay, chgE.lst ach], 0, .full⟩ : Blk), (⟨[tkE.lst X], 0, .full⟩ : Blk)])
    generalize hG2 : (J ++ [(⟨[.int .u8 ak, .int .i64 ac, .int .i64 at_, .str ay, chgE.lst ach], 0, .full⟩ : Blk), (⟨[tkE.lst X], 0, .full⟩ : Blk)] : Heap) = G2 at *
    have hJl : J.length + 2 ≤ G2.length := by rw [← hG2]; simp
    have hPV : PV (puE.lst P) P := .inl rfl
    have hwl : hv.length ≤ i + 1 := by omega
    clear hG2
    have hPl : P.length ≤ 128 := by omega
    clear hkey cg e1 hk1 hco hcl hP8 gk gt ov
    have gt3 : (List.set G2 H.length ⟨[tkE.lst X], 0, .full⟩ : Heap)[H.length]? = some ⟨[tkE.lst X], 0, .full⟩ := List.getElem?_set_self (by omega)
    have ov3 : OwnE puE (H.length + 1) (List.set G2 H.length ⟨[tkE.lst X], 0, .full⟩ : Heap) v hv := ov2.keep (Keep.of_set rfl) (fun b hb e => by cases hb; have := ov2.ge e; omega)
    have hl3 : H.length + 1 ≤ (List.set G2 H.length ⟨[tkE.lst X], 0, .full⟩ : Heap).length := by simp; omega
    repeat' (first | simp only [go_sem, Nat.reduceLT, Nat.reduceEqDiff, Nat.reduceAdd, Nat.reduceMul, Nat.reduceSub, Nat.reduceLeDiff, Int.reduceToNat, Int.reduceNeg, Int.reduceLT, Int.reduceLE, Int.reduceEq, reduceCtorEq, Int.natCast_zero, Int.natCast_one, Int.cast_ofNat_Int, Bool.not_not, false_eq_decide, true_eq_decide, hread0, hreadk, read_cons0, read_consk, astore_h0, astore_hk, hget0, hgetk, hset0, hsetk, hlen, hcat, Nat.add_assoc, Nat.add_zero, Nat.zero_add, List.length_append, and_true, true_and, AV.flat, gx2, get_app gx2, read_get gx2, read_app gx2, gt2, get_app gt2, read_get gt2, read_app gt2, astore_get gt2, astore_app gt2, get_set gt2, get_set_app gt2, read_set gt2, read_set_app gt2, astore_set gt2, astore_set_app gt2, List.set_set, hget0s, hgetks, hread0s, hreadks, List.length_set, hvo, one_solid hvo, one_cells hvo, *, -hK, -hXm, -hXp, -hwl, -ov2, -hinv, -hvl, -ov3, -gt3, -hl3, -back, -hPl] | with_reducible refine IfB_dec (fun h => ?_) (fun h => ?_) | with_reducible refine Guard_dec (fun h => ?_) (fun h => ?_) | with_reducible refine Guard_ndec (fun h => ?_) (fun h => ?_) | with_reducible refine Guard_not (fun h => ?_) (fun h => ?_) | with_reducible refine IfB_ndec (fun h => ?_) (fun h => ?_) | with_reducible refine IfB_not (fun h => ?_) (fun h => ?_) | with_reducible refine Guard_split (fun h => ?_) (fun h => ?_) | with_reducible refine IfB_split (fun h => ?_) (fun h => ?_))
    generalize (List.set G2 H.length ⟨[tkE.lst X], 0, .full⟩ : Heap) = G3 at *
    clear gx2 gt2 ov2
    have hpl := hPV.len
    have hpo := hPV.one
    have o1 := s1
    have o5 := s5
    have o6 := s6
    have hA0 := hA
    generalize hw : hv = hw' at *
    generalize hvv : v = v' at *
    have hvo2 := ov3.one
    refine WX_loopS [1, 5, 6, 8, 9, 12] (fun k fr' J4 => ∃ (q : Nat) (w : AV), k = hw'.length - q ∧ q ≤ hw'.length ∧ fr'.get 15 = .int .i64 q ∧ fr'.get 14 = w ∧ OwnE puE G3.length J4 w (leftL (hw'.take q) P) ∧ Keep none G3 J4 ∧ A fr') hw'.length ⟨0, .nils, rfl, by omega, by simp only [go_sem, Nat.reduceLT, Nat.reduceEqDiff, Nat.reduceAdd, Nat.reduceMul, Nat.reduceSub, Nat.reduceLeDiff, Int.reduceToNat, Int.reduceNeg, Int.reduceLT, Int.reduceLE, Int.reduceEq, reduceCtorEq]; rfl, by simp only [go_sem, Nat.reduceLT, Nat.reduceEqDiff, Nat.reduceAdd, Nat.reduceMul, Nat.reduceSub, Nat.reduceLeDiff, Int.reduceToNat, Int.reduceNeg, Int.reduceLT, Int.reduceLE, Int.reduceEq, reduceCtorEq], OwnE.nils _ _ _, Keep.refl _ _, by (repeat (first | exact hs | refine hA _ _ _ (by decide) ?_))⟩ ?_
    clear hg hs hA s1 s5 s6
    rintro k fr' J4 A2 R2 hA hs hg hR2 ⟨q, w, rfl, hq, f15, f14, ow, k4, hAf⟩
    have s1 := hg 1 (by decide)
    have s5 := hg 5 (by decide)
    have s6 := hg 6 (by decide)
    have s8 := hg 8 (by decide)
    have s9 := hg 9 (by decide)
    have s12 := hg 12 (by decide)
    simp only [Fr.get_put, Fr.get_init, List.getD_cons_zero, List.getD_cons_succ, Nat.reduceEqDiff, if_true, if_false] at s1 s5 s6 s8 s9 s12
    rw [o1] at s1
    rw [o5] at s5
    rw [o6] at s6
    clear o1 o5 o6
    refine wx_sound hT _ ?_
    have hwo := ow.one
    have ov4 := ov3.keep0 k4
    have e0 := ov4.alen (by decide) tk31
    by_cases hlq : q < hw'.length
    · have i6 : (q : Int) < hw'.length := by omega
      have e7 := inc_id hlq (by omega)
      obtain ⟨pb, po, e1, e2, -⟩ := ov4.at_ (by decide) se31 hlq (k := .i64) rfl
      rw [show puE.sz = 3 from rfl, puE_cells] at e2
      have hls := leftL_step (P := P) hlq
      have hll : (leftL (hw'.take q) P).length ≤ q := by
        have := List.length_filter_le (fun p => !decide (p ∈ P)) (hw'.take q)
        rw [List.length_take] at this; unfold leftL; omega
      have hJ4 : G3.length ≤ J4.length := k4.len
      have back2 : ∀ fr2 J5 w2, A2 fr2 → fr2.get 15 = .int .i64 ((q + 1 : Nat) : Int) → fr2.get 14 = w2 → OwnE puE G3.length J5 w2 (leftL (hw'.take (q + 1)) P) → Keep none G3 J5 → A fr2 → R2 fr2 J5 := fun fr2 J5 w2 ha j1 j2 j3 j4 j5 => hR2 fr2 J5 ha (hw'.length - (q + 1)) (by omega) ⟨q + 1, w2, rfl, by omega, j1, j2, j3, j4, j5⟩
      rw [hls] at back2
      clear hR2 hls back
      generalize hw'[q] = x at *
      repeat' (first | simp only [go_sem, Nat.reduceLT, Nat.reduceEqDiff, Nat.reduceAdd, Nat.reduceMul, Nat.reduceSub, Nat.reduceLeDiff, Int.reduceToNat, Int.reduceNeg, Int.reduceLT, Int.reduceLE, Int.reduceEq, reduceCtorEq, Int.natCast_zero, Int.natCast_one, Int.cast_ofNat_Int, Bool.not_not, false_eq_decide, true_eq_decide, hread0, hreadk, read_cons0, read_consk, astore_h0, astore_hk, hget0, hgetk, hset0, hsetk, hlen, hcat, Nat.add_assoc, Nat.add_zero, Nat.zero_add, List.length_append, and_true, true_and, AV.flat, hvo2, one_solid hvo2, one_cells hvo2, hwo, one_solid hwo, one_cells hwo, hpo, one_solid hpo, one_cells hpo, *, -hK, -hXm, -hXp, -hwl, -hinv, -hvl, -ov3, -ov4, -ow, -k4, -hl3, -back2, -hll, -hJ4, -e1, -e2] | with_reducible refine IfB_dec (fun h => ?_) (fun h => ?_) | with_reducible refine Guard_dec (fun h => ?_) (fun h => ?_) | with_reducible refine Guard_ndec (fun h => ?_) (fun h => ?_) | with_reducible refine Guard_not (fun h => ?_) (fun h => ?_) | with_reducible refine IfB_ndec (fun h => ?_) (fun h => ?_) | with_reducible refine IfB_not (fun h => ?_) (fun h => ?_) | with_reducible refine Guard_split (fun h => ?_) (fun h => ?_) | with_reducible refine IfB_split (fun h => ?_) (fun h => ?_))
      have o1 := s1
      have o5 := s5
      have o6 := s6
      have o8 := s8
      have o9 := s9
      have o12 := s12
      have hB0 := hA
      refine WX_loopS [1, 5, 6, 8, 9, 12, 14, 15] (fun k fr' J5 => ∃ (z : Nat), k = P.length - z ∧ z ≤ P.length ∧ fr'.get 17 = .int .i64 z ∧ fr'.get 16 = .bool (decide (x ∈ P.take z)) ∧ J5 = J4 ∧ A fr' ∧ A2 fr') P.length ⟨0, rfl, by omega, by simp only [go_sem, Nat.reduceLT, Nat.reduceEqDiff, Nat.reduceAdd, Nat.reduceMul, Nat.reduceSub, Nat.reduceLeDiff, Int.reduceToNat, Int.reduceNeg, Int.reduceLT, Int.reduceLE, Int.reduceEq, reduceCtorEq]; rfl, by simp only [go_sem, Nat.reduceLT, Nat.reduceEqDiff, Nat.reduceAdd, Nat.reduceMul, Nat.reduceSub, Nat.reduceLeDiff, Int.reduceToNat, Int.reduceNeg, Int.reduceLT, Int.reduceLE, Int.reduceEq, reduceCtorEq]; simp, rfl, by repeat (first | exact hAf | refine hA0 _ _ _ (by decide) ?_), by (repeat (first | exact hs | refine hA _ _ _ (by decide) ?_))⟩ ?_
      clear hg hs hA s1 s5 s6 s8 s9 s12
      rintro k fr' J5 A3 R3 hA hs hg hR3 ⟨z, rfl, hz, f17, f16, rfl, hAf3, hBf3⟩
      have s1 := hg 1 (by decide)
      have s5 := hg 5 (by decide)
      have s6 := hg 6 (by decide)
      have s8 := hg 8 (by decide)
      have s9 := hg 9 (by decide)
      have s12 := hg 12 (by decide)
      have s14 := hg 14 (by decide)
      have s15 := hg 15 (by decide)
      simp only [Fr.get_put, Fr.get_init, List.getD_cons_zero, List.getD_cons_succ, Nat.reduceEqDiff, if_true, if_false] at s1 s5 s6 s8 s9 s12 s14 s15
      rw [o1] at s1
      rw [o5] at s5
      rw [o6] at s6
      rw [o8] at s8
      rw [o9] at s9
      rw [o12] at s12
      rw [f14] at s14
      rw [f15] at s15
      clear o1 o5 o6 o8 o9 o12 f14 f15
      refine wx_sound hT _ ?_
      by_cases hlz : z < P.length
      · have i8 : (z : Int) < P.length := by omega
        have e8 := hPV.at_ hlz
        rw [puE_cells] at e8
        have e9 := inc_id hlz (by omega)
        have hms := memP_step hlz x
        have back3 : ∀ fr2 J6, A3 fr2 → fr2.get 17 = .int .i64 ((z + 1 : Nat) : Int) → fr2.get 16 = .bool (decide (x ∈ P.take z) || decide (P[z] = x)) → J6 = J5 → A fr2 → A2 fr2 → R3 fr2 J6 := fun fr2 J6 ha j1 j2 j3 j4 j5 => hR3 fr2 J6 ha (P.length - (z + 1)) (by omega) ⟨z + 1, rfl, by omega, j1, by rw [hms]; exact j2, j3, j4, j5⟩
        clear hR3 hms back2
        generalize P[z] = y at *
        generalize decide (x ∈ P.take z) = td at *
        obtain ⟨xc, xt, xk⟩ := x
        obtain ⟨yc, yt, yk⟩ := y
        simp only at e2 e8
        cases td with
        | true =>
          rw [Bool.true_or] at back3
          repeat' (first | simp only [go_sem, Nat.reduceLT, Nat.reduceEqDiff, Nat.reduceAdd, Nat.reduceMul, Nat.reduceSub, Nat.reduceLeDiff, Int.reduceToNat, Int.reduceNeg, Int.reduceLT, Int.reduceLE, Int.reduceEq, reduceCtorEq, Int.natCast_zero, Int.natCast_one, Int.cast_ofNat_Int, Bool.not_not, false_eq_decide, true_eq_decide, hread0, hreadk, read_cons0, read_consk, astore_h0, astore_hk, hget0, hgetk, hset0, hsetk, hlen, hcat, Nat.add_assoc, Nat.add_zero, Nat.zero_add, List.length_append, and_true, true_and, AV.flat, hvo2, one_solid hvo2, one_cells hvo2, hwo, one_solid hwo, one_cells hwo, hpo, one_solid hpo, one_cells hpo, *, -hK, -hXm, -hXp, -hwl, -hinv, -hvl, -ov3, -ov4, -ow, -k4, -hl3, -back3, -hll, -hJ4] | with_reducible refine IfB_dec (fun h => ?_) (fun h => ?_) | with_reducible refine Guard_dec (fun h => ?_) (fun h => ?_) | with_reducible refine Guard_ndec (fun h => ?_) (fun h => ?_) | with_reducible refine Guard_not (fun h => ?_) (fun h => ?_) | with_reducible refine IfB_ndec (fun h => ?_) (fun h => ?_) | with_reducible refine IfB_not (fun h => ?_) (fun h => ?_) | with_reducible refine Guard_split (fun h => ?_) (fun h => ?_) | with_reducible refine IfB_split (fun h => ?_) (fun h => ?_))
          refine WX_rows hT hmix [(0, none), (1, none), (2, none), (3, none), (4, none), (5, none), (6, none), (7, none), (8, none), (9, none), (10, none), (11, none), (12, none)] (by kernel_rfl) ?_
          repeat' (first | simp only [go_sem, Nat.reduceLT, Nat.reduceEqDiff, Nat.reduceAdd, Nat.reduceMul, Nat.reduceSub, Nat.reduceLeDiff, Int.reduceToNat, Int.reduceNeg, Int.reduceLT, Int.reduceLE, Int.reduceEq, reduceCtorEq, Int.natCast_zero, Int.natCast_one, Int.cast_ofNat_Int, Bool.not_not, false_eq_decide, true_eq_decide, hread0, hreadk, read_cons0, read_consk, astore_h0, astore_hk, hget0, hgetk, hset0, hsetk, hlen, hcat, Nat.add_assoc, Nat.add_zero, Nat.zero_add, List.length_append, and_true, true_and, AV.flat, hvo2, one_solid hvo2, one_cells hvo2, hwo, one_solid hwo, one_cells hwo, hpo, one_solid hpo, one_cells hpo, *, -hK, -hXm, -hXp, -hwl, -hinv, -hvl, -ov3, -ov4, -ow, -k4, -hl3, -back3, -hll, -hJ4] | with_reducible refine IfB_dec (fun h => ?_) (fun h => ?_) | with_reducible refine Guard_dec (fun h => ?_) (fun h => ?_) | with_reducible refine Guard_ndec (fun h => ?_) (fun h => ?_) | with_reducible refine Guard_not (fun h => ?_) (fun h => ?_) | with_reducible refine IfB_ndec (fun h => ?_) (fun h => ?_) | with_reducible refine IfB_not (fun h => ?_) (fun h => ?_) | with_reducible refine Guard_split (fun h => ?_) (fun h => ?_) | with_reducible refine IfB_split (fun h => ?_) (fun h => ?_))
          exact back3 _ _ (by (repeat (first | exact hs | refine hA _ _ _ (by decide) ?_))) (by simp only [go_sem, Nat.reduceLT, Nat.reduceEqDiff, Nat.reduceAdd, Nat.reduceMul, Nat.reduceSub, Nat.reduceLeDiff, Int.reduceToNat, Int.reduceNeg, Int.reduceLT, Int.reduceLE, Int.reduceEq, reduceCtorEq]) (by simp only [go_sem, Nat.reduceLT, Nat.reduceEqDiff, Nat.reduceAdd, Nat.reduceMul, Nat.reduceSub, Nat.reduceLeDiff, Int.reduceToNat, Int.reduceNeg, Int.reduceLT, Int.reduceLE, Int.reduceEq, reduceCtorEq]) rfl (by repeat (first | exact hAf3 | refine hA0 _ _ _ (by decide) ?_)) (by repeat (first | exact hBf3 | refine hB0 _ _ _ (by decide) ?_))
        | false =>
          rw [Bool.false_or] at back3
          by_cases h1 : yc = xc
          · by_cases h2 : yt = xt
            · by_cases h3 : yk = xk
              · subst h1 h2 h3
                rw [decide_eq_true rfl] at back3
                repeat' (first | simp only [go_sem, Nat.reduceLT, Nat.reduceEqDiff, Nat.reduceAdd, Nat.reduceMul, Nat.reduceSub, Nat.reduceLeDiff, Int.reduceToNat, Int.reduceNeg, Int.reduceLT, Int.reduceLE, Int.reduceEq, reduceCtorEq, Int.natCast_zero, Int.natCast_one, Int.cast_ofNat_Int, Bool.not_not, false_eq_decide, true_eq_decide, hread0, hreadk, read_cons0, read_consk, astore_h0, astore_hk, hget0, hgetk, hset0, hsetk, hlen, hcat, Nat.add_assoc, Nat.add_zero, Nat.zero_add, List.length_append, and_true, true_and, AV.flat, hvo2, one_solid hvo2, one_cells hvo2, hwo, one_solid hwo, one_cells hwo, hpo, one_solid hpo, one_cells hpo, *, -hK, -hXm, -hXp, -hwl, -hinv, -hvl, -ov3, -ov4, -ow, -k4, -hl3, -back3, -hll, -hJ4] | with_reducible refine IfB_dec (fun h => ?_) (fun h => ?_) | with_reducible refine Guard_dec (fun h => ?_) (fun h => ?_) | with_reducible refine Guard_ndec (fun h => ?_) (fun h => ?_) | with_reducible refine Guard_not (fun h => ?_) (fun h => ?_) | with_reducible refine IfB_ndec (fun h => ?_) (fun h => ?_) | with_reducible refine IfB_not (fun h => ?_) (fun h => ?_) | with_reducible refine Guard_split (fun h => ?_) (fun h => ?_) | with_reducible refine IfB_split (fun h => ?_) (fun h => ?_))
                refine WX_rows hT hmix [(0, none), (1, none), (2, none), (3, none), (4, none), (5, none), (6, none), (7, none), (8, none), (9, none), (10, none), (11, none), (12, none)] (by kernel_rfl) ?_
                repeat' (first | simp only [go_sem, Nat.reduceLT, Nat.reduceEqDiff, Nat.reduceAdd, Nat.reduceMul, Nat.reduceSub, Nat.reduceLeDiff, Int.reduceToNat, Int.reduceNeg, Int.reduceLT, Int.reduceLE, Int.reduceEq, reduceCtorEq, Int.natCast_zero, Int.natCast_one, Int.cast_ofNat_Int, Bool.not_not, false_eq_decide, true_eq_decide, hread0, hreadk, read_cons0, read_consk, astore_h0, astore_hk, hget0, hgetk, hset0, hsetk, hlen, hcat, Nat.add_assoc, Nat.add_zero, Nat.zero_add, List.length_append, and_true, true_and, AV.flat, hvo2, one_solid hvo2, one_cells hvo2, hwo, one_solid hwo, one_cells hwo, hpo, one_solid hpo, one_cells hpo, *, -hK, -hXm, -hXp, -hwl, -hinv, -hvl, -ov3, -ov4, -ow, -k4, -hl3, -back3, -hll, -hJ4] | with_reducible refine IfB_dec (fun h => ?_) (fun h => ?_) | with_reducible refine Guard_dec (fun h => ?_) (fun h => ?_) | with_reducible refine Guard_ndec (fun h => ?_) (fun h => ?_) | with_reducible refine Guard_not (fun h => ?_) (fun h => ?_) | with_reducible refine IfB_ndec (fun h => ?_) (fun h => ?_) | with_reducible refine IfB_not (fun h => ?_) (fun h => ?_) | with_reducible refine Guard_split (fun h => ?_) (fun h => ?_) | with_reducible refine IfB_split (fun h => ?_) (fun h => ?_))
                exact back3 _ _ (by (repeat (first | exact hs | refine hA _ _ _ (by decide) ?_))) (by simp only [go_sem, Nat.reduceLT, Nat.reduceEqDiff, Nat.reduceAdd, Nat.reduceMul, Nat.reduceSub, Nat.reduceLeDiff, Int.reduceToNat, Int.reduceNeg, Int.reduceLT, Int.reduceLE, Int.reduceEq, reduceCtorEq]) (by simp only [go_sem, Nat.reduceLT, Nat.reduceEqDiff, Nat.reduceAdd, Nat.reduceMul, Nat.reduceSub, Nat.reduceLeDiff, Int.reduceToNat, Int.reduceNeg, Int.reduceLT, Int.reduceLE, Int.reduceEq, reduceCtorEq]) rfl (by repeat (first | exact hAf3 | refine hA0 _ _ _ (by decide) ?_)) (by repeat (first | exact hBf3 | refine hB0 _ _ _ (by decide) ?_))
              · rw [show decide ((⟨yc, yt, yk⟩ : Pu) = ⟨xc, xt, xk⟩) = false by simp [h3]] at back3
                subst h1 h2
                repeat' (first | simp only [go_sem, Nat.reduceLT, Nat.reduceEqDiff, Nat.reduceAdd, Nat.reduceMul, Nat.reduceSub, Nat.reduceLeDiff, Int.reduceToNat, Int.reduceNeg, Int.reduceLT, Int.reduceLE, Int.reduceEq, reduceCtorEq, Int.natCast_zero, Int.natCast_one, Int.cast_ofNat_Int, Bool.not_not, false_eq_decide, true_eq_decide, hread0, hreadk, read_cons0, read_consk, astore_h0, astore_hk, hget0, hgetk, hset0, hsetk, hlen, hcat, Nat.add_assoc, Nat.add_zero, Nat.zero_add, List.length_append, and_true, true_and, AV.flat, hvo2, one_solid hvo2, one_cells hvo2, hwo, one_solid hwo, one_cells hwo, hpo, one_solid hpo, one_cells hpo, *, -hK, -hXm, -hXp, -hwl, -hinv, -hvl, -ov3, -ov4, -ow, -k4, -hl3, -back3, -hll, -hJ4] | with_reducible refine IfB_dec (fun h => ?_) (fun h => ?_) | with_reducible refine Guard_dec (fun h => ?_) (fun h => ?_) | with_reducible refine Guard_ndec (fun h => ?_) (fun h => ?_) | with_reducible refine Guard_not (fun h => ?_) (fun h => ?_) | with_reducible refine IfB_ndec (fun h => ?_) (fun h => ?_) | with_reducible refine IfB_not (fun h => ?_) (fun h => ?_) | with_reducible refine Guard_split (fun h => ?_) (fun h => ?_) | with_reducible refine IfB_split (fun h => ?_) (fun h => ?_))
                refine WX_rows hT hmix [(0, none), (1, none), (2, none), (3, none), (4, none), (5, none), (6, none), (7, none), (8, none), (9, none), (10, none), (11, none), (12, none)] (by kernel_rfl) ?_
                repeat' (first | simp only [go_sem, Nat.reduceLT, Nat.reduceEqDiff, Nat.reduceAdd, Nat.reduceMul, Nat.reduceSub, Nat.reduceLeDiff, Int.reduceToNat, Int.reduceNeg, Int.reduceLT, Int.reduceLE, Int.reduceEq, reduceCtorEq, Int.natCast_zero, Int.natCast_one, Int.cast_ofNat_Int, Bool.not_not, false_eq_decide, true_eq_decide, hread0, hreadk, read_cons0, read_consk, astore_h0, astore_hk, hget0, hgetk, hset0, hsetk, hlen, hcat, Nat.add_assoc, Nat.add_zero, Nat.zero_add, List.length_append, and_true, true_and, AV.flat, hvo2, one_solid hvo2, one_cells hvo2, hwo, one_solid hwo, one_cells hwo, hpo, one_solid hpo, one_cells hpo, *, -hK, -hXm, -hXp, -hwl, -hinv, -hvl, -ov3, -ov4, -ow, -k4, -hl3, -back3, -hll, -hJ4] | with_reducible refine IfB_dec (fun h => ?_) (fun h => ?_) | with_reducible refine Guard_dec (fun h => ?_) (fun h => ?_) | with_reducible refine Guard_ndec (fun h => ?_) (fun h => ?_) | with_reducible refine Guard_not (fun h => ?_) (fun h => ?_) | with_reducible refine IfB_ndec (fun h => ?_) (fun h => ?_) | with_reducible refine IfB_not (fun h => ?_) (fun h => ?_) | with_reducible refine Guard_split (fun h => ?_) (fun h => ?_) | with_reducible refine IfB_split (fun h => ?_) (fun h => ?_))
                exact back3 _ _ (by (repeat (first | exact hs | refine hA _ _ _ (by decide) ?_))) (by simp only [go_sem, Nat.reduceLT, Nat.reduceEqDiff, Nat.reduceAdd, Nat.reduceMul, Nat.reduceSub, Nat.reduceLeDiff, Int.reduceToNat, Int.reduceNeg, Int.reduceLT, Int.reduceLE, Int.reduceEq, reduceCtorEq]) (by simp only [go_sem, Nat.reduceLT, Nat.reduceEqDiff, Nat.reduceAdd, Nat.reduceMul, Nat.reduceSub, Nat.reduceLeDiff, Int.reduceToNat, Int.reduceNeg, Int.reduceLT, Int.reduceLE, Int.reduceEq, reduceCtorEq]) rfl (by repeat (first | exact hAf3 | refine hA0 _ _ _ (by decide) ?_)) (by repeat (first | exact hBf3 | refine hB0 _ _ _ (by decide) ?_))
            · rw [show decide ((⟨yc, yt, yk⟩ : Pu) = ⟨xc, xt, xk⟩) = false by simp [h2]] at back3
              subst h1
              repeat' (first | simp only [go_sem, Nat.reduceLT, Nat.reduceEqDiff, Nat.reduceAdd, Nat.reduceMul, Nat.reduceSub, Nat.reduceLeDiff, Int.reduceToNat, Int.reduceNeg, Int.reduceLT, Int.reduceLE, Int.reduceEq, reduceCtorEq, Int.natCast_zero, Int.natCast_one, Int.cast_ofNat_Int, Bool.not_not, false_eq_decide, true_eq_decide, hread0, hreadk, read_cons0, read_consk, astore_h0, astore_hk, hget0, hgetk, hset0, hsetk, hlen, hcat, Nat.add_assoc, Nat.add_zero, Nat.zero_add, List.length_append, and_true, true_and, AV.flat, hvo2, one_solid hvo2, one_cells hvo2, hwo, one_solid hwo, one_cells hwo, hpo, one_solid hpo, one_cells hpo, *, -hK, -hXm, -hXp, -hwl, -hinv, -hvl, -ov3, -ov4, -ow, -k4, -hl3, -back3, -hll, -hJ4] | with_reducible refine IfB_dec (fun h => ?_) (fun h => ?_) | with_reducible refine Guard_dec (fun h => ?_) (fun h => ?_) | with_reducible refine Guard_ndec (fun h => ?_) (fun h => ?_) | with_reducible refine Guard_not (fun h => ?_) (fun h => ?_) | with_reducible refine IfB_ndec (fun h => ?_) (fun h => ?_) | with_reducible refine IfB_not (fun h => ?_) (fun h => ?_) | with_reducible refine Guard_split (fun h => ?_) (fun h => ?_) | with_reducible refine IfB_split (fun h => ?_) (fun h => ?_))
              refine WX_rows hT hmix [(0, none), (1, none), (2, none), (3, none), (4, none), (5, none), (6, none), (7, none), (8, none), (9, none), (10, none), (11, none), (12, none)] (by kernel_rfl) ?_
              repeat' (first | simp only [go_sem, Nat.reduceLT, Nat.reduceEqDiff, Nat.reduceAdd, Nat.reduceMul, Nat.reduceSub, Nat.reduceLeDiff, Int.reduceToNat, Int.reduceNeg, Int.reduceLT, Int.reduceLE, Int.reduceEq, reduceCtorEq, Int.natCast_zero, Int.natCast_one, Int.cast_ofNat_Int, Bool.not_not, false_eq_decide, true_eq_decide, hread0, hreadk, read_cons0, read_consk, astore_h0, astore_hk, hget0, hgetk, hset0, hsetk, hlen, hcat, Nat.add_assoc, Nat.add_zero, Nat.zero_add, List.length_append, and_true, true_and, AV.flat, hvo2, one_solid hvo2, one_cells hvo2, hwo, one_solid hwo, one_cells hwo, hpo, one_solid hpo, one_cells hpo, *, -hK, -hXm, -hXp, -hwl, -hinv, -hvl, -ov3, -ov4, -ow, -k4, -hl3, -back3, -hll, -hJ4] | with_reducible refine IfB_dec (fun h => ?_) (fun h => ?_) | with_reducible refine Guard_dec (fun h => ?_) (fun h => ?_) | with_reducible refine Guard_ndec (fun h => ?_) (fun h => ?_) | with_reducible refine Guard_not (fun h => ?_) (fun h => ?_) | with_reducible refine IfB_ndec (fun h => ?_) (fun h => ?_) | with_reducible refine IfB_not (fun h => ?_) (fun h => ?_) | with_reducible refine Guard_split (fun h => ?_) (fun h => ?_) | with_reducible refine IfB_split (fun h => ?_) (fun h => ?_))
              exact back3 _ _ (by (repeat (first | exact hs | refine hA _ _ _ (by decide) ?_))) (by simp only [go_sem, Nat.reduceLT, Nat.reduceEqDiff, Nat.reduceAdd, Nat.reduceMul, Nat.reduceSub, Nat.reduceLeDiff, Int.reduceToNat, Int.reduceNeg, Int.reduceLT, Int.reduceLE, Int.reduceEq, reduceCtorEq]) (by simp only [go_sem, Nat.reduceLT, Nat.reduceEqDiff, Nat.reduceAdd, Nat.reduceMul, Nat.reduceSub, Nat.reduceLeDiff, Int.reduceToNat, Int.reduceNeg, Int.reduceLT, Int.reduceLE, Int.reduceEq, reduceCtorEq]) rfl (by repeat (first | exact hAf3 | refine hA0 _ _ _ (by decide) ?_)) (by repeat (first | exact hBf3 | refine hB0 _ _ _ (by decide) ?_))
          · rw [show decide ((⟨yc, yt, yk⟩ : Pu) = ⟨xc, xt, xk⟩) = false by simp [h1]] at back3
            repeat' (first | simp only [go_sem, Nat.reduceLT, Nat.reduceEqDiff, Nat.reduceAdd, Nat.reduceMul, Nat.reduceSub, Nat.reduceLeDiff, Int.reduceToNat, Int.reduceNeg, Int.reduceLT, Int.reduceLE, Int.reduceEq, reduceCtorEq, Int.natCast_zero, Int.natCast_one, Int.cast_ofNat_Int, Bool.not_not, false_eq_decide, true_eq_decide, hread0, hreadk, read_cons0, read_consk, astore_h0, astore_hk, hget0, hgetk, hset0, hsetk, hlen, hcat, Nat.add_assoc, Nat.add_zero, Nat.zero_add, List.length_append, and_true, true_and, AV.flat, hvo2, one_solid hvo2, one_cells hvo2, hwo, one_solid hwo, one_cells hwo, hpo, one_solid hpo, one_cells hpo, *, -hK, -hXm, -hXp, -hwl, -hinv, -hvl, -ov3, -ov4, -ow, -k4, -hl3, -back3, -hll, -hJ4] | with_reducible refine IfB_dec (fun h => ?_) (fun h => ?_) | with_reducible refine Guard_dec (fun h => ?_) (fun h => ?_) | with_reducible refine Guard_ndec (fun h => ?_) (fun h => ?_) | with_reducible refine Guard_not (fun h => ?_) (fun h => ?_) | with_reducible refine IfB_ndec (fun h => ?_) (fun h => ?_) | with_reducible refine IfB_not (fun h => ?_) (fun h => ?_) | with_reducible refine Guard_split (fun h => ?_) (fun h => ?_) | with_reducible refine IfB_split (fun h => ?_) (fun h => ?_))
            refine WX_rows hT hmix [(0, none), (1, none), (2, none), (3, none), (4, none), (5, none), (6, none), (7, none), (8, none), (9, none), (10, none), (11, none), (12, none)] (by kernel_rfl) ?_
            repeat' (first | simp only [go_sem, Nat.reduceLT, Nat.reduceEqDiff, Nat.reduceAdd, Nat.reduceMul, Nat.reduceSub, Nat.reduceLeDiff, Int.reduceToNat, Int.reduceNeg, Int.reduceLT, Int.reduceLE, Int.reduceEq, reduceCtorEq, Int.natCast_zero, Int.natCast_one, Int.cast_ofNat_Int, Bool.not_not, false_eq_decide, true_eq_decide, hread0, hreadk, read_cons0, read_consk, astore_h0, astore_hk, hget0, hgetk, hset0, hsetk, hlen, hcat, Nat.add_assoc, Nat.add_zero, Nat.zero_add, List.length_append, and_true, true_and, AV.flat, hvo2, one_solid hvo2, one_cells hvo2, hwo, one_solid hwo, one_cells hwo, hpo, one_solid hpo, one_cells hpo, *, -hK, -hXm, -hXp, -hwl, -hinv, -hvl, -ov3, -ov4, -ow, -k4, -hl3, -back3, -hll, -hJ4] | with_reducible refine IfB_dec (fun h => ?_) (fun h => ?_) | with_reducible refine Guard_dec (fun h => ?_) (fun h => ?_) | with_reducible refine Guard_ndec (fun h => ?_) (fun h => ?_) | with_reducible refine Guard_not (fun h => ?_) (fun h => ?_) | with_reducible refine IfB_ndec (fun h => ?_) (fun h => ?_) | with_reducible refine IfB_not (fun h => ?_) (fun h => ?_) | with_reducible refine Guard_split (fun h => ?_) (fun h => ?_) | with_reducible refine IfB_split (fun h => ?_) (fun h => ?_))
            exact back3 _ _ (by (repeat (first | exact hs | refine hA _ _ _ (by decide) ?_))) (by simp only [go_sem, Nat.reduceLT, Nat.reduceEqDiff, Nat.reduceAdd, Nat.reduceMul, Nat.reduceSub, Nat.reduceLeDiff, Int.reduceToNat, Int.reduceNeg, Int.reduceLT, Int.reduceLE, Int.reduceEq, reduceCtorEq]) (by simp only [go_sem, Nat.reduceLT, Nat.reduceEqDiff, Nat.reduceAdd, Nat.reduceMul, Nat.reduceSub, Nat.reduceLeDiff, Int.reduceToNat, Int.reduceNeg, Int.reduceLT, Int.reduceLE, Int.reduceEq, reduceCtorEq]) rfl (by repeat (first | exact hAf3 | refine hA0 _ _ _ (by decide) ?_)) (by repeat (first | exact hBf3 | refine hB0 _ _ _ (by decide) ?_))
      have i8 : ¬ (z : Int) < P.length := by omega
      have hze : z = P.length := by omega
      rw [hze, List.take_length] at f16
      by_cases hxP : x ∈ P
      · rw [decide_eq_true hxP] at f16
        rw [if_pos hxP, List.append_nil] at back2
        repeat' (first | simp only [go_sem, Nat.reduceLT, Nat.reduceEqDiff, Nat.reduceAdd, Nat.reduceMul, Nat.reduceSub, Nat.reduceLeDiff, Int.reduceToNat, Int.reduceNeg, Int.reduceLT, Int.reduceLE, Int.reduceEq, reduceCtorEq, Int.natCast_zero, Int.natCast_one, Int.cast_ofNat_Int, Bool.not_not, false_eq_decide, true_eq_decide, hread0, hreadk, read_cons0, read_consk, astore_h0, astore_hk, hget0, hgetk, hset0, hsetk, hlen, hcat, Nat.add_assoc, Nat.add_zero, Nat.zero_add, List.length_append, and_true, true_and, AV.flat, hvo2, one_solid hvo2, one_cells hvo2, hwo, one_solid hwo, one_cells hwo, hpo, one_solid hpo, one_cells hpo, *, -hK, -hXm, -hXp, -hwl, -hinv, -hvl, -ov3, -ov4, -ow, -k4, -hl3, -back2, -hll, -hJ4, -hze, -hxP, -e2] | with_reducible refine IfB_dec (fun h => ?_) (fun h => ?_) | with_reducible refine Guard_dec (fun h => ?_) (fun h => ?_) | with_reducible refine Guard_ndec (fun h => ?_) (fun h => ?_) | with_reducible refine Guard_not (fun h => ?_) (fun h => ?_) | with_reducible refine IfB_ndec (fun h => ?_) (fun h => ?_) | with_reducible refine IfB_not (fun h => ?_) (fun h => ?_) | with_reducible refine Guard_split (fun h => ?_) (fun h => ?_) | with_reducible refine IfB_split (fun h => ?_) (fun h => ?_))
        exact back2 _ _ _ (by repeat (first | exact hBf3 | refine hB0 _ _ _ (by decide) ?_)) (by simp only [go_sem, Nat.reduceLT, Nat.reduceEqDiff, Nat.reduceAdd, Nat.reduceMul, Nat.reduceSub, Nat.reduceLeDiff, Int.reduceToNat, Int.reduceNeg, Int.reduceLT, Int.reduceLE, Int.reduceEq, reduceCtorEq]) (by simp only [go_sem, Nat.reduceLT, Nat.reduceEqDiff, Nat.reduceAdd, Nat.reduceMul, Nat.reduceSub, Nat.reduceLeDiff, Int.reduceToNat, Int.reduceNeg, Int.reduceLT, Int.reduceLE, Int.reduceEq, reduceCtorEq]; exact s14) ow k4 (by repeat (first | exact hAf3 | refine hA0 _ _ _ (by decide) ?_))
      · rw [decide_eq_false hxP] at f16
        rw [if_neg hxP] at back2
        repeat' (first | simp only [go_sem, Nat.reduceLT, Nat.reduceEqDiff, Nat.reduceAdd, Nat.reduceMul, Nat.reduceSub, Nat.reduceLeDiff, Int.reduceToNat, Int.reduceNeg, Int.reduceLT, Int.reduceLE, Int.reduceEq, reduceCtorEq, Int.natCast_zero, Int.natCast_one, Int.cast_ofNat_Int, Bool.not_not, false_eq_decide, true_eq_decide, hread0, hreadk, read_cons0, read_consk, astore_h0, astore_hk, hget0, hgetk, hset0, hsetk, hlen, hcat, Nat.add_assoc, Nat.add_zero, Nat.zero_add, List.length_append, and_true, true_and, AV.flat, hvo2, one_solid hvo2, one_cells hvo2, hwo, one_solid hwo, one_cells hwo, hpo, one_solid hpo, one_cells hpo, *, -hK, -hXm, -hXp, -hwl, -hinv, -hvl, -ov3, -ov4, -ow, -k4, -hl3, -back2, -hll, -hJ4, -hze, -hxP] | with_reducible refine IfB_dec (fun h => ?_) (fun h => ?_) | with_reducible refine Guard_dec (fun h => ?_) (fun h => ?_) | with_reducible refine Guard_ndec (fun h => ?_) (fun h => ?_) | with_reducible refine Guard_not (fun h => ?_) (fun h => ?_) | with_reducible refine IfB_ndec (fun h => ?_) (fun h => ?_) | with_reducible refine IfB_not (fun h => ?_) (fun h => ?_) | with_reducible refine Guard_split (fun h => ?_) (fun h => ?_) | with_reducible refine IfB_split (fun h => ?_) (fun h => ?_))
        refine append1_enc (E := puE) (x := x) ow rfl se31 az47 td47 tk31 rfl rfl (by decide) (by show (_ + 1) * 99 ≤ _; omega) hJ4 ?_
        intro v5 H5 o5 k5 hn5
        have hv5 := o5.one
        repeat' (first | simp only [go_sem, Nat.reduceLT, Nat.reduceEqDiff, Nat.reduceAdd, Nat.reduceMul, Nat.reduceSub, Nat.reduceLeDiff, Int.reduceToNat, Int.reduceNeg, Int.reduceLT, Int.reduceLE, Int.reduceEq, reduceCtorEq, Int.natCast_zero, Int.natCast_one, Int.cast_ofNat_Int, Bool.not_not, false_eq_decide, true_eq_decide, hread0, hreadk, read_cons0, read_consk, astore_h0, astore_hk, hget0, hgetk, hset0, hsetk, hlen, hcat, Nat.add_assoc, Nat.add_zero, Nat.zero_add, List.length_append, and_true, true_and, AV.flat, hvo2, one_solid hvo2, one_cells hvo2, hwo, one_solid hwo, one_cells hwo, hv5, one_solid hv5, one_cells hv5, hpo, one_solid hpo, one_cells hpo, *, -hK, -hXm, -hXp, -hwl, -hinv, -hvl, -ov3, -ov4, -ow, -k4, -hl3, -back2, -hll, -hJ4, -hze, -hxP, -o5, -k5, -hn5] | with_reducible refine IfB_dec (fun h => ?_) (fun h => ?_) | with_reducible refine Guard_dec (fun h => ?_) (fun h => ?_) | with_reducible refine Guard_ndec (fun h => ?_) (fun h => ?_) | with_reducible refine Guard_not (fun h => ?_) (fun h => ?_) | with_reducible refine IfB_ndec (fun h => ?_) (fun h => ?_) | with_reducible refine IfB_not (fun h => ?_) (fun h => ?_) | with_reducible refine Guard_split (fun h => ?_) (fun h => ?_) | with_reducible refine IfB_split (fun h => ?_) (fun h => ?_))
        exact back2 _ _ _ (by repeat (first | exact hBf3 | refine hB0 _ _ _ (by decide) ?_)) (by simp only [go_sem, Nat.reduceLT, Nat.reduceEqDiff, Nat.reduceAdd, Nat.reduceMul, Nat.reduceSub, Nat.reduceLeDiff, Int.reduceToNat, Int.reduceNeg, Int.reduceLT, Int.reduceLE, Int.reduceEq, reduceCtorEq]) rfl (by simp only [go_sem, Nat.reduceLT, Nat.reduceEqDiff, Nat.reduceAdd, Nat.reduceMul, Nat.reduceSub, Nat.reduceLeDiff, Int.reduceToNat, Int.reduceNeg, Int.reduceLT, Int.reduceLE, Int.reduceEq, reduceCtorEq]; exact o5) (k4.via k5 (fun b hb => ow.ge hb)) (by repeat (first | exact hAf3 | refine hA0 _ _ _ (by decide) ?_))
    have i6 : ¬ (q : Int) < hw'.length := by omega
    have hqe : q = hw'.length := by omega
    rw [hqe, List.take_length] at ow
    have hll : (leftL hw' P).length ≤ hw'.length := List.length_filter_le _ _
    have hlp : ∀ p ∈ leftL hw' P, hasP X p := fun p hp => by
      unfold leftL at hp
      rw [List.mem_filter] at hp
      exact hXp p hp.1 (by simpa using hp.2)
    have gt4 := k4.get gt3 (by simp)
    have ow4 : OwnE puE (H.length + 1) J4 w (leftL hw' P) := ow.mono hl3
    have hJ4 : H.length + 1 ≤ J4.length := by have := k4.len; omega
    clear ow k4 gt3 ov3 ov4 hXp hR2 hinv hqe
    generalize leftL hw' P = lf at *
    repeat' (first | simp only [go_sem, Nat.reduceLT, Nat.reduceEqDiff, Nat.reduceAdd, Nat.reduceMul, Nat.reduceSub, Nat.reduceLeDiff, Int.reduceToNat, Int.reduceNeg, Int.reduceLT, Int.reduceLE, Int.reduceEq, reduceCtorEq, Int.natCast_zero, Int.natCast_one, Int.cast_ofNat_Int, Bool.not_not, false_eq_decide, true_eq_decide, hread0, hreadk, read_cons0, read_consk, astore_h0, astore_hk, hget0, hgetk, hset0, hsetk, hlen, hcat, Nat.add_assoc, Nat.add_zero, Nat.zero_add, List.length_append, and_true, true_and, AV.flat, hvo2, one_solid hvo2, one_cells hvo2, hwo, one_solid hwo, one_cells hwo, hpo, one_solid hpo, one_cells hpo, *, -hK, -hXm, -hwl, -hvl, -hl3, -back, -hll, -hlp, -gt4, -ow4, -hJ4, -hlq] | with_reducible refine IfB_dec (fun h => ?_) (fun h => ?_) | with_reducible refine Guard_dec (fun h => ?_) (fun h => ?_) | with_reducible refine Guard_ndec (fun h => ?_) (fun h => ?_) | with_reducible refine Guard_not (fun h => ?_) (fun h => ?_) | with_reducible refine IfB_ndec (fun h => ?_) (fun h => ?_) | with_reducible refine IfB_not (fun h => ?_) (fun h => ?_) | with_reducible refine Guard_split (fun h => ?_) (fun h => ?_) | with_reducible refine IfB_split (fun h => ?_) (fun h => ?_))
    have o1 := s1
    have o5 := s5
    have o6 := s6
    have o9 := s9
    clear hg hs hA s1 s5 s6 s8 s9 s12
    refine WX_loopS [1, 5, 6, 8, 9] (fun k fr' J5 => ∃ (z : Nat), k = lf.length - z ∧ z ≤ lf.length ∧ fr'.get 18 = .int .i64 z ∧ J5 = J4 ∧ A fr') lf.length ⟨0, rfl, by omega, by simp only [go_sem, Nat.reduceLT, Nat.reduceEqDiff, Nat.reduceAdd, Nat.reduceMul, Nat.reduceSub, Nat.reduceLeDiff, Int.reduceToNat, Int.reduceNeg, Int.reduceLT, Int.reduceLE, Int.reduceEq, reduceCtorEq]; rfl, rfl, by repeat (first | exact hAf | refine hA0 _ _ _ (by decide) ?_)⟩ ?_
    rintro k fr' J5 A3 R3 hA hs hg hR3 ⟨z, rfl, hz, f18, rfl, hAf3⟩
    have s1 := hg 1 (by decide)
    have s5 := hg 5 (by decide)
    have s6 := hg 6 (by decide)
    have s8 := hg 8 (by decide)
    have s9 := hg 9 (by decide)
    simp only [Fr.get_put, Fr.get_init, List.getD_cons_zero, List.getD_cons_succ, Nat.reduceEqDiff, if_true, if_false] at s1 s5 s6 s8 s9
    rw [o1] at s1
    rw [o5] at s5
    rw [o6] at s6
    rw [o9] at s9
    clear o1 o5 o6 o9
    refine wx_sound hT _ ?_
    have e0 := ow4.alen (by decide) tk31
    by_cases hlz : z < lf.length
    rotate_left
    · have i8 : ¬ (z : Int) < lf.length := by omega
      repeat' (first | simp only [go_sem, Nat.reduceLT, Nat.reduceEqDiff, Nat.reduceAdd, Nat.reduceMul, Nat.reduceSub, Nat.reduceLeDiff, Int.reduceToNat, Int.reduceNeg, Int.reduceLT, Int.reduceLE, Int.reduceEq, reduceCtorEq, Int.natCast_zero, Int.natCast_one, Int.cast_ofNat_Int, Bool.not_not, false_eq_decide, true_eq_decide, hread0, hreadk, read_cons0, read_consk, astore_h0, astore_hk, hget0, hgetk, hset0, hsetk, hlen, hcat, Nat.add_assoc, Nat.add_zero, Nat.zero_add, List.length_append, and_true, true_and, AV.flat, hwo, one_solid hwo, one_cells hwo, *, -hK, -hXm, -hwl, -hvl, -hl3, -back, -hll, -hlp, -gt4, -ow4, -hJ4, -hlz] | with_reducible refine IfB_dec (fun h => ?_) (fun h => ?_) | with_reducible refine Guard_dec (fun h => ?_) (fun h => ?_) | with_reducible refine Guard_ndec (fun h => ?_) (fun h => ?_) | with_reducible refine Guard_not (fun h => ?_) (fun h => ?_) | with_reducible refine IfB_ndec (fun h => ?_) (fun h => ?_) | with_reducible refine IfB_not (fun h => ?_) (fun h => ?_) | with_reducible refine Guard_split (fun h => ?_) (fun h => ?_) | with_reducible refine IfB_split (fun h => ?_) (fun h => ?_))
      exact back _ _ X lf w (by repeat (first | exact hAf3 | refine hA0 _ _ _ (by decide) ?_)) (by simp only [go_sem, Nat.reduceLT, Nat.reduceEqDiff, Nat.reduceAdd, Nat.reduceMul, Nat.reduceSub, Nat.reduceLeDiff, Int.reduceToNat, Int.reduceNeg, Int.reduceLT, Int.reduceLE, Int.reduceEq, reduceCtorEq]) (by simp only [go_sem, Nat.reduceLT, Nat.reduceEqDiff, Nat.reduceAdd, Nat.reduceMul, Nat.reduceSub, Nat.reduceLeDiff, Int.reduceToNat, Int.reduceNeg, Int.reduceLT, Int.reduceLE, Int.reduceEq, reduceCtorEq]; exact s8) gt4 ow4 hXm hlp (by omega) hJ4
    have i8 : (z : Int) < lf.length := by omega
    have e9 := inc_id hlz (by omega)
    obtain ⟨pb, po, e1, e2, -⟩ := ow4.at_ (by decide) se31 hlz (k := .i64) rfl
    rw [show puE.sz = 3 from rfl, puE_cells] at e2
    obtain ⟨c, hc, hcl2, hin⟩ := hlp _ (List.getElem_mem hlz)
    have hs2 := fun J => has_spec X c ⟨lf[z].ten, lf[z].key⟩ hcl2 (by have := (hXm.2.2 _ (List.getElem_mem hcl2)).1.2; omega) J
    rw [decide_eq_true hin] at hs2
    clear hin hlp
    generalize lf[z] = y at *
    obtain ⟨yc, yt, yk⟩ := y
    simp only at hc e2 hs2
    subst hc
    have e20 := read_sub e2 0 1 (by omega)
    have e21 := read_sub e2 1 2 (by omega)
    simp only [Nat.add_zero, List.drop_zero, List.take_succ_cons, List.take_zero, List.drop_succ_cons] at e20 e21
    unfold trAv Nm.av at hs2
    repeat' (first | simp only [go_sem, Nat.reduceLT, Nat.reduceEqDiff, Nat.reduceAdd, Nat.reduceMul, Nat.reduceSub, Nat.reduceLeDiff, Int.reduceToNat, Int.reduceNeg, Int.reduceLT, Int.reduceLE, Int.reduceEq, reduceCtorEq, Int.natCast_zero, Int.natCast_one, Int.cast_ofNat_Int, Bool.not_not, false_eq_decide, true_eq_decide, hread0, hreadk, read_cons0, read_consk, astore_h0, astore_hk, hget0, hgetk, hset0, hsetk, hlen, hcat, Nat.add_assoc, Nat.add_zero, Nat.zero_add, List.length_append, and_true, true_and, AV.flat, gt4, get_app gt4, read_get gt4, read_app gt4, hwo, one_solid hwo, one_cells hwo, *, -hK, -hXm, -hwl, -hvl, -hl3, -back, -hll, -gt4, -ow4, -hJ4, -hs2, -e2] | with_reducible refine IfB_dec (fun h => ?_) (fun h => ?_) | with_reducible refine Guard_dec (fun h => ?_) (fun h => ?_) | with_reducible refine Guard_ndec (fun h => ?_) (fun h => ?_) | with_reducible refine Guard_not (fun h => ?_) (fun h => ?_) | with_reducible refine IfB_ndec (fun h => ?_) (fun h => ?_) | with_reducible refine IfB_not (fun h => ?_) (fun h => ?_) | with_reducible refine Guard_split (fun h => ?_) (fun h => ?_) | with_reducible refine IfB_split (fun h => ?_) (fun h => ?_))
    refine WX_rows hT hmix [(0, none), (1, none), (2, none), (3, none), (4, none), (5, none), (6, none), (7, none), (8, none), (9, none), (10, none), (11, some [true, true, true, true, true, true, true, true, true, true, true]), (12, none)] (by kernel_rfl) ?_
    repeat' (first | simp only [go_sem, Nat.reduceLT, Nat.reduceEqDiff, Nat.reduceAdd, Nat.reduceMul, Nat.reduceSub, Nat.reduceLeDiff, Int.reduceToNat, Int.reduceNeg, Int.reduceLT, Int.reduceLE, Int.reduceEq, reduceCtorEq, Int.natCast_zero, Int.natCast_one, Int.cast_ofNat_Int, Bool.not_not, false_eq_decide, true_eq_decide, hread0, hreadk, read_cons0, read_consk, astore_h0, astore_hk, hget0, hgetk, hset0, hsetk, hlen, hcat, Nat.add_assoc, Nat.add_zero, Nat.zero_add, List.length_append, and_true, true_and, AV.flat, gt4, get_app gt4, read_get gt4, read_app gt4, hwo, one_solid hwo, one_cells hwo, *, -hK, -hXm, -hwl, -hvl, -hl3, -back, -hll, -gt4, -ow4, -hJ4, -hs2, -e2] | refine WC.call (hs2 _) ?_ | with_reducible refine IfB_dec (fun h => ?_) (fun h => ?_) | with_reducible refine Guard_dec (fun h => ?_) (fun h => ?_) | with_reducible refine Guard_ndec (fun h => ?_) (fun h => ?_) | with_reducible refine Guard_not (fun h => ?_) (fun h => ?_) | with_reducible refine IfB_ndec (fun h => ?_) (fun h => ?_) | with_reducible refine IfB_not (fun h => ?_) (fun h => ?_) | with_reducible refine Guard_split (fun h => ?_) (fun h => ?_) | with_reducible refine IfB_split (fun h => ?_) (fun h => ?_))
    exact hR3 _ _ (by (repeat (first | exact hs | refine hA _ _ _ (by decide) ?_))) (lf.length - (z + 1)) (by omega) ⟨z + 1, rfl, by omega, by simp only [go_sem, Nat.reduceLT, Nat.reduceEqDiff, Nat.reduceAdd, Nat.reduceMul, Nat.reduceSub, Nat.reduceLeDiff, Int.reduceToNat, Int.reduceNeg, Int.reduceLT, Int.reduceLE, Int.reduceEq, reduceCtorEq], rfl, by repeat (first | exact hAf3 | refine hA0 _ _ _ (by decide) ?_)⟩
  by_cases m3 : ak.tmod 5 = 3
  · have cg := fun J => on_spec ts ac (by omega) hts J
    have gk := hkey [.int .u8 ak, .int .i64 ac, .int .i64 at_, .str ay, chgE.lst ach] [.nils]
    unfold trAv at cg
    by_cases ha : askE ts ac = 0
    rotate_left
    · rw [if_neg ha] at cg
      generalize askE ts ac = e at *
      repeat' (first | simp only [go_sem, Nat.reduceLT, Nat.reduceEqDiff, Nat.reduceAdd, Nat.reduceMul, Nat.reduceSub, Nat.reduceLeDiff, Int.reduceToNat, Int.reduceNeg, Int.reduceLT, Int.reduceLE, Int.reduceEq, reduceCtorEq, Int.natCast_zero, Int.natCast_one, Int.cast_ofNat_Int, Bool.not_not, false_eq_decide, true_eq_decide, hread0, hreadk, read_cons0, read_consk, astore_h0, astore_hk, hget0, hgetk, hset0, hsetk, hlen, hcat, Nat.add_assoc, Nat.add_zero, Nat.zero_add, List.length_append, and_true, true_and, AV.flat, gk, get_app gk, read_get gk, read_app gk, *, -hK, -gt, -ov, -hm, -hinv, -hvl, -hJ, -hk1, -hco, -back, -hts, -ht8, -hkey, -cg, -gk] | refine WC.call (cg _) ?_ | with_reducible refine IfB_dec (fun h => ?_) (fun h => ?_) | with_reducible refine Guard_dec (fun h => ?_) (fun h => ?_) | with_reducible refine Guard_ndec (fun h => ?_) (fun h => ?_) | with_reducible refine Guard_not (fun h => ?_) (fun h => ?_) | with_reducible refine IfB_ndec (fun h => ?_) (fun h => ?_) | with_reducible refine IfB_not (fun h => ?_) (fun h => ?_) | with_reducible refine Guard_split (fun h => ?_) (fun h => ?_) | with_reducible refine IfB_split (fun h => ?_) (fun h => ?_))
      exact back _ _ ts hv v (by (repeat (first | exact hs | refine hA _ _ _ (by decide) ?_))) (by simp only [go_sem, Nat.reduceLT, Nat.reduceEqDiff, Nat.reduceAdd, Nat.reduceMul, Nat.reduceSub, Nat.reduceLeDiff, Int.reduceToNat, Int.reduceNeg, Int.reduceLT, Int.reduceLE, Int.reduceEq, reduceCtorEq]) (by simp only [go_sem, Nat.reduceLT, Nat.reduceEqDiff, Nat.reduceAdd, Nat.reduceMul, Nat.reduceSub, Nat.reduceLeDiff, Int.reduceToNat, Int.reduceNeg, Int.reduceLT, Int.reduceLE, Int.reduceEq, reduceCtorEq]; exact f8) (hkey _ _) (ov.keep0 (Keep.app none _ _)) hm hinv (by omega) (by simp; omega)
    obtain ⟨-, hi0, hi1⟩ := askE_ok ha
    obtain ⟨j, rfl⟩ : ∃ j : Nat, ac = j := ⟨ac.toNat, by omega⟩
    have hj : j < ts.length := by omega
    rw [ha, if_pos rfl, Int.toNat_natCast, tkAt_eq hj] at cg
    have hmj := hm.2.2 _ (List.getElem_mem hj)
    have hXm : trMay (ts.set j ⟨true, ts[j].ns⟩) := trMay_set hm _ ⟨⟨.inl rfl, hmj.1.2⟩, hmj.2⟩
    have hXp : ∀ p ∈ hv, p ∉ ([] : List Pu) → hasP (ts.set j ⟨true, ts[j].ns⟩) p := fun p hp _ => hasP_set hj (hinv p hp) fun _ m hm => hm
    generalize ts.set j ⟨true, ts[j].ns⟩ = X at *
    clear ha hi0 hi1
    repeat' (first | simp only [go_sem, Nat.reduceLT, Nat.reduceEqDiff, Nat.reduceAdd, Nat.reduceMul, Nat.reduceSub, Nat.reduceLeDiff, Int.reduceToNat, Int.reduceNeg, Int.reduceLT, Int.reduceLE, Int.reduceEq, reduceCtorEq, Int.natCast_zero, Int.natCast_one, Int.cast_ofNat_Int, Bool.not_not, false_eq_decide, true_eq_decide, hread0, hreadk, read_cons0, read_consk, astore_h0, astore_hk, hget0, hgetk, hset0, hsetk, hlen, hcat, Nat.add_assoc, Nat.add_zero, Nat.zero_add, List.length_append, and_true, true_and, AV.flat, gk, get_app gk, read_get gk, read_app gk, *, -hK, -gt, -ov, -hm, -hinv, -hvl, -hJ, -hk1, -hco, -back, -hts, -ht8, -hkey, -cg, -gk, -hXm, -hXp, -hmj] | refine WC.call (cg _) ?_ | with_reducible refine IfB_dec (fun h => ?_) (fun h => ?_) | with_reducible refine Guard_dec (fun h => ?_) (fun h => ?_) | with_reducible refine Guard_ndec (fun h => ?_) (fun h => ?_) | with_reducible refine Guard_not (fun h => ?_) (fun h => ?_) | with_reducible refine IfB_ndec (fun h => ?_) (fun h => ?_) | with_reducible refine IfB_not (fun h => ?_) (fun h => ?_) | with_reducible refine Guard_split (fun h => ?_) (fun h => ?_) | with_reducible refine IfB_split (fun h => ?_) (fun h => ?_))
    have gt2 := hkey [.int .u8 ak, .int .i64 (j : Int), .int .i64 at_, .str ay, chgE.lst ach] [tkE.lst X]
    have gx2 : (J ++ [(⟨[.int .u8 ak, .int .i64 (j : Int), .int .i64 at_, .str ay, chgE.lst ach], 0, .full⟩ : Blk), (⟨[tkE.lst X], 0, .full⟩ : Blk)] : Heap)[J.length + 1]? = some (⟨[tkE.lst X], 0, .full⟩ : Blk) := by rw [hgetk]; rfl
    have ov2 := ov.keep0 (Keep.app none J [(⟨[.int .u8 ak, .int .i64 (j : Int), .int .i64 at_, .str ay, chgE.lst ach], 0, .full⟩ : Blk), (⟨[tkE.lst X], 0, .full⟩ : Blk)])
    generalize hG2 : (J ++ [(⟨[.int .u8 ak, .int .i64 (j : Int), .int .i64 at_, .str ay, chgE.lst ach], 0, .full⟩ : Blk), (⟨[tkE.lst X], 0, .full⟩ : Blk)] : Heap) = G2 at *
    have hJl : J.length + 2 ≤ G2.length := by rw [← hG2]; simp
    have hPV : PV .nils [] := .inr ⟨rfl, rfl⟩
    generalize ([] : List Pu) = P at *
    have hwl : hv.length ≤ i + 1 := by omega
    have hPl : P.length ≤ 128 := by rcases hPV with h | ⟨_, h⟩ <;> first | (rw [h]; simp) | cases h
    clear hkey cg e1 hk1 hco hcl gk gt ov hG2 hmj
    have gt3 : (List.set G2 H.length ⟨[tkE.lst X], 0, .full⟩ : Heap)[H.length]? = some ⟨[tkE.lst X], 0, .full⟩ := List.getElem?_set_self (by omega)
    have ov3 : OwnE puE (H.length + 1) (List.set G2 H.length ⟨[tkE.lst X], 0, .full⟩ : Heap) v hv := ov2.keep (Keep.of_set rfl) (fun b hb e => by cases hb; have := ov2.ge e; omega)
    have hl3 : H.length + 1 ≤ (List.set G2 H.length ⟨[tkE.lst X], 0, .full⟩ : Heap).length := by simp; omega
    repeat' (first | simp only [go_sem, Nat.reduceLT, Nat.reduceEqDiff, Nat.reduceAdd, Nat.reduceMul, Nat.reduceSub, Nat.reduceLeDiff, Int.reduceToNat, Int.reduceNeg, Int.reduceLT, Int.reduceLE, Int.reduceEq, reduceCtorEq, Int.natCast_zero, Int.natCast_one, Int.cast_ofNat_Int, Bool.not_not, false_eq_decide, true_eq_decide, hread0, hreadk, read_cons0, read_consk, astore_h0, astore_hk, hget0, hgetk, hset0, hsetk, hlen, hcat, Nat.add_assoc, Nat.add_zero, Nat.zero_add, List.length_append, and_true, true_and, AV.flat, gx2, get_app gx2, read_get gx2, read_app gx2, gt2, get_app gt2, read_get gt2, read_app gt2, astore_get gt2, astore_app gt2, get_set gt2, get_set_app gt2, read_set gt2, read_set_app gt2, astore_set gt2, astore_set_app gt2, List.set_set, hget0s, hgetks, hread0s, hreadks, List.length_set, hvo, one_solid hvo, one_cells hvo, *, -hK, -hXm, -hXp, -hwl, -ov2, -hinv, -hvl, -ov3, -gt3, -hl3, -back, -hPl] | with_reducible refine IfB_dec (fun h => ?_) (fun h => ?_) | with_reducible refine Guard_dec (fun h => ?_) (fun h => ?_) | with_reducible refine Guard_ndec (fun h => ?_) (fun h => ?_) | with_reducible refine Guard_not (fun h => ?_) (fun h => ?_) | with_reducible refine IfB_ndec (fun h => ?_) (fun h => ?_) | with_reducible refine IfB_not (fun h => ?_) (fun h => ?_) | with_reducible refine Guard_split (fun h => ?_) (fun h => ?_) | with_reducible refine IfB_split (fun h => ?_) (fun h => ?_))
    generalize (List.set G2 H.length ⟨[tkE.lst X], 0, .full⟩ : Heap) = G3 at *
    clear gx2 gt2 ov2
    have hpl := hPV.len
    have hpo := hPV.one
    have o1 := s1
    have o5 := s5
    have o6 := s6
    have hA0 := hA
    generalize hw : hv = hw' at *
    generalize hvv : v = v' at *
    have hvo2 := ov3.one
    refine WX_loopS [1, 5, 6, 8, 9, 12] (fun k fr' J4 => ∃ (q : Nat) (w : AV), k = hw'.length - q ∧ q ≤ hw'.length ∧ fr'.get 15 = .int .i64 q ∧ fr'.get 14 = w ∧ OwnE puE G3.length J4 w (leftL (hw'.take q) P) ∧ Keep none G3 J4 ∧ A fr') hw'.length ⟨0, .nils, rfl, by omega, by simp only [go_sem, Nat.reduceLT, Nat.reduceEqDiff, Nat.reduceAdd, Nat.reduceMul, Nat.reduceSub, Nat.reduceLeDiff, Int.reduceToNat, Int.reduceNeg, Int.reduceLT, Int.reduceLE, Int.reduceEq, reduceCtorEq]; rfl, by simp only [go_sem, Nat.reduceLT, Nat.reduceEqDiff, Nat.reduceAdd, Nat.reduceMul, Nat.reduceSub, Nat.reduceLeDiff, Int.reduceToNat, Int.reduceNeg, Int.reduceLT, Int.reduceLE, Int.reduceEq, reduceCtorEq], OwnE.nils _ _ _, Keep.refl _ _, by (repeat (first | exact hs | refine hA _ _ _ (by decide) ?_))⟩ ?_
    clear hg hs hA s1 s5 s6
    rintro k fr' J4 A2 R2 hA hs hg hR2 ⟨q, w, rfl, hq, f15, f14, ow, k4, hAf⟩
    have s1 := hg 1 (by decide)
    have s5 := hg 5 (by decide)
    have s6 := hg 6 (by decide)
    have s8 := hg 8 (by decide)
    have s9 := hg 9 (by decide)
    have s12 := hg 12 (by decide)
    simp only [Fr.get_put, Fr.get_init, List.getD_cons_zero, List.getD_cons_succ, Nat.reduceEqDiff, if_true, if_false] at s1 s5 s6 s8 s9 s12
    rw [o1] at s1
    rw [o5] at s5
    rw [o6] at s6
    clear o1 o5 o6
    refine wx_sound hT _ ?_
    have hwo := ow.one
    have ov4 := ov3.keep0 k4
    have e0 := ov4.alen (by decide) tk31
    by_cases hlq : q < hw'.length
    · have i6 : (q : Int) < hw'.length := by omega
      have e7 := inc_id hlq (by omega)
      obtain ⟨pb, po, e1, e2, -⟩ := ov4.at_ (by decide) se31 hlq (k := .i64) rfl
      rw [show puE.sz = 3 from rfl, puE_cells] at e2
      have hls := leftL_step (P := P) hlq
      have hll : (leftL (hw'.take q) P).length ≤ q := by
        have := List.length_filter_le (fun p => !decide (p ∈ P)) (hw'.take q)
        rw [List.length_take] at this; unfold leftL; omega
      have hJ4 : G3.length ≤ J4.length := k4.len
      have back2 : ∀ fr2 J5 w2, A2 fr2 → fr2.get 15 = .int .i64 ((q + 1 : Nat) : Int) → fr2.get 14 = w2 → OwnE puE G3.length J5 w2 (leftL (hw'.take (q + 1)) P) → Keep none G3 J5 → A fr2 → R2 fr2 J5 := fun fr2 J5 w2 ha j1 j2 j3 j4 j5 => hR2 fr2 J5 ha (hw'.length - (q + 1)) (by omega) ⟨q + 1, w2, rfl, by omega, j1, j2, j3, j4, j5⟩
      rw [hls] at back2
      clear hR2 hls back
      generalize hw'[q] = x at *
      repeat' (first | simp only [go_sem, Nat.reduceLT, Nat.reduceEqDiff, Nat.reduceAdd, Nat.reduceMul, Nat.reduceSub, Nat.reduceLeDiff, Int.reduceToNat, Int.reduceNeg, Int.reduceLT, Int.reduceLE, Int.reduceEq, reduceCtorEq, Int.natCast_zero, Int.natCast_one, Int.cast_ofNat_Int, Bool.not_not, false_eq_decide, true_eq_decide, hread0, hreadk, read_cons0, read_consk, astore_h0, astore_hk, hget0, hgetk, hset0, hsetk, hlen, hcat, Nat.add_assoc, Nat.add_zero, Nat.zero_add, List.length_append, and_true, true_and, AV.flat, hvo2, one_solid hvo2, one_cells hvo2, hwo, one_solid hwo, one_cells hwo, hpo, one_solid hpo, one_cells hpo, *, -hK, -hXm, -hXp, -hwl, -hinv, -hvl, -ov3, -ov4, -ow, -k4, -hl3, -back2, -hll, -hJ4, -e1, -e2] | with_reducible refine IfB_dec (fun h => ?_) (fun h => ?_) | with_reducible refine Guard_dec (fun h => ?_) (fun h => ?_) | with_reducible refine Guard_ndec (fun h => ?_) (fun h => ?_) | with_reducible refine Guard_not (fun h => ?_) (fun h => ?_) | with_reducible refine IfB_ndec (fun h => ?_) (fun h => ?_) | with_reducible refine IfB_not (fun h => ?_) (fun h => ?_) | with_reducible refine Guard_split (fun h => ?_) (fun h => ?_) | with_reducible refine IfB_split (fun h => ?_) (fun h => ?_))
      have o1 := s1
      have o5 := s5
      have o6 := s6
      have o8 := s8
      have o9 := s9
      have o12 := s12
      have hB0 := hA
      refine WX_loopS [1, 5, 6, 8, 9, 12, 14, 15] (fun k fr' J5 => ∃ (z : Nat), k = P.length - z ∧ z ≤ P.length ∧ fr'.get 17 = .int .i64 z ∧ fr'.get 16 = .bool (decide (x ∈ P.take z)) ∧ J5 = J4 ∧ A fr' ∧ A2 fr') P.length ⟨0, rfl, by omega, by simp only [go_sem, Nat.reduceLT, Nat.reduceEqDiff, Nat.reduceAdd, Nat.reduceMul, Nat.reduceSub, Nat.reduceLeDiff, Int.reduceToNat, Int.reduceNeg, Int.reduceLT, Int.reduceLE, Int.reduceEq, reduceCtorEq]; rfl, by simp only [go_sem, Nat.reduceLT, Nat.reduceEqDiff, Nat.reduceAdd, Nat.reduceMul, Nat.reduceSub, Nat.reduceLeDiff, Int.reduceToNat, Int.reduceNeg, Int.reduceLT, Int.reduceLE, Int.reduceEq, reduceCtorEq]; simp, rfl, by repeat (first | exact hAf | refine hA0 _ _ _ (by decide) ?_), by (repeat (first | exact hs | refine hA _ _ _ (by decide) ?_))⟩ ?_
      clear hg hs hA s1 s5 s6 s8 s9 s12
      rintro k fr' J5 A3 R3 hA hs hg hR3 ⟨z, rfl, hz, f17, f16, rfl, hAf3, hBf3⟩
      have s1 := hg 1 (by decide)
      have s5 := hg 5 (by decide)
      have s6 := hg 6 (by decide)
      have s8 := hg 8 (by decide)
      have s9 := hg 9 (by decide)
      have s12 := hg 12 (by decide)
      have s14 := hg 14 (by decide)
      have s15 := hg 15 (by decide)
      simp only [Fr.get_put, Fr.get_init, List.getD_cons_zero, List.getD_cons_succ, Nat.reduceEqDiff, if_true, if_false] at s1 s5 s6 s8 s9 s12 s14 s15
      rw [o1] at s1
      rw [o5] at s5
      rw [o6] at s6
      rw [o8] at s8
      rw [o9] at s9
      rw [o12] at s12
      rw [f14] at s14
      rw [f15] at s15
      clear o1 o5 o6 o8 o9 o12 f14 f15
      refine wx_sound hT _ ?_
      by_cases hlz : z < P.length
      · have i8 : (z : Int) < P.length := by omega
        have e8 := hPV.at_ hlz
        rw [puE_cells] at e8
        have e9 := inc_id hlz (by omega)
        have hms := memP_step hlz x
        have back3 : ∀ fr2 J6, A3 fr2 → fr2.get 17 = .int .i64 ((z + 1 : Nat) : Int) → fr2.get 16 = .bool (decide (x ∈ P.take z) || decide (P[z] = x)) → J6 = J5 → A fr2 → A2 fr2 → R3 fr2 J6 := fun fr2 J6 ha j1 j2 j3 j4 j5 => hR3 fr2 J6 ha (P.length - (z + 1)) (by omega) ⟨z + 1, rfl, by omega, j1, by rw [hms]; exact j2, j3, j4, j5⟩
        clear hR3 hms back2
        generalize P[z] = y at *
        generalize decide (x ∈ P.take z) = td at *
        obtain ⟨xc, xt, xk⟩ := x
        obtain ⟨yc, yt, yk⟩ := y
        simp only at e2 e8
        cases td with
        | true =>
          rw [Bool.true_or] at back3
          repeat' (first | simp only [go_sem, Nat.reduceLT, Nat.reduceEqDiff, Nat.reduceAdd, Nat.reduceMul, Nat.reduceSub, Nat.reduceLeDiff, Int.reduceToNat, Int.reduceNeg, Int.reduceLT, Int.reduceLE, Int.reduceEq, reduceCtorEq, Int.natCast_zero, Int.natCast_one, Int.cast_ofNat_Int, Bool.not_not, false_eq_decide, true_eq_decide, hread0, hreadk, read_cons0, read_consk, astore_h0, astore_hk, hget0, hgetk, hset0, hsetk, hlen, hcat, Nat.add_assoc, Nat.add_zero, Nat.zero_add, List.length_append, and_true, true_and, AV.flat, hvo2, one_solid hvo2, one_cells hvo2, hwo, one_solid hwo, one_cells hwo, hpo, one_solid hpo, one_cells hpo, *, -hK, -hXm, -hXp, -hwl, -hinv, -hvl, -ov3, -ov4, -ow, -k4, -hl3, -back3, -hll, -hJ4] | with_reducible refine IfB_dec (fun h => ?_) (fun h => ?_) | with_reducible refine Guard_dec (fun h => ?_) (fun h => ?_) | with_reducible refine Guard_ndec (fun h => ?_) (fun h => ?_) | with_reducible refine Guard_not (fun h => ?_) (fun h => ?_) | with_reducible refine IfB_ndec (fun h => ?_) (fun h => ?_) | with_reducible refine IfB_not (fun h => ?_) (fun h => ?_) | with_reducible refine Guard_split (fun h => ?_) (fun h => ?_) | with_reducible refine IfB_split (fun h => ?_) (fun h => ?_))
          refine WX_rows hT hmix [(0, none), (1, none), (2, none), (3, none), (4, none), (5, none), (6, none), (7, none), (8, none), (9, none), (10, none), (11, none), (12, none)] (by kernel_rfl) ?_
          repeat' (first | simp only [go_sem, Nat.reduceLT, Nat.reduceEqDiff, Nat.reduceAdd, Nat.reduceMul, Nat.reduceSub, Nat.reduceLeDiff, Int.reduceToNat, Int.reduceNeg, Int.reduceLT, Int.reduceLE, Int.reduceEq, reduceCtorEq, Int.natCast_zero, Int.natCast_one, Int.cast_ofNat_Int, Bool.not_not, false_eq_decide, true_eq_decide, hread0, hreadk, read_cons0, read_consk, astore_h0, astore_hk, hget0, hgetk, hset0, hsetk, hlen, hcat, Nat.add_assoc, Nat.add_zero, Nat.zero_add, List.length_append, and_true, true_and, AV.flat, hvo2, one_solid hvo2, one_cells hvo2, hwo, one_solid hwo, one_cells hwo, hpo, one_solid hpo, one_cells hpo, *, -hK, -hXm, -hXp, -hwl, -hinv, -hvl, -ov3, -ov4, -ow, -k4, -hl3, -back3, -hll, -hJ4] | with_reducible refine IfB_dec (fun h => ?_) (fun h => ?_) | with_reducible refine Guard_dec (fun h => ?_) (fun h => ?_) | with_reducible refine Guard_ndec (fun h => ?_) (fun h => ?_) | with_reducible refine Guard_not (fun h => ?_) (fun h => ?_) | with_reducible refine IfB_ndec (fun h => ?_) (fun h => ?_) | with_reducible refine IfB_not (fun h => ?_) (fun h => ?_) | with_reducible refine Guard_split (fun h => ?_) (fun h => ?_) | with_reducible refine IfB_split (fun h => ?_) (fun h => ?_))
          exact back3 _ _ (by (repeat (first | exact hs | refine hA _ _ _ (by decide) ?_))) (by simp only [go_sem, Nat.reduceLT, Nat.reduceEqDiff, Nat.reduceAdd, Nat.reduceMul, Nat.reduceSub, Nat.reduceLeDiff, Int.reduceToNat, Int.reduceNeg, Int.reduceLT, Int.reduceLE, Int.reduceEq, reduceCtorEq]) (by simp only [go_sem, Nat.reduceLT, Nat.reduceEqDiff, Nat.reduceAdd, Nat.reduceMul, Nat.reduceSub, Nat.reduceLeDiff, Int.reduceToNat, Int.reduceNeg, Int.reduceLT, Int.reduceLE, Int.reduceEq, reduceCtorEq]) rfl (by repeat (first | exact hAf3 | refine hA0 _ _ _ (by decide) ?_)) (by repeat (first | exact hBf3 | refine hB0 _ _ _ (by decide) ?_))
        | false =>
          rw [Bool.false_or] at back3
          by_cases h1 : yc = xc
          · by_cases h2 : yt = xt
            · by_cases h3 : yk = xk
              · subst h1 h2 h3
                rw [decide_eq_true rfl] at back3
                repeat' (first | simp only [go_sem, Nat.reduceLT, Nat.reduceEqDiff, Nat.reduceAdd, Nat.reduceMul, Nat.reduceSub, Nat.reduceLeDiff, Int.reduceToNat, Int.reduceNeg, Int.reduceLT, Int.reduceLE, Int.reduceEq, reduceCtorEq, Int.natCast_zero, Int.natCast_one, Int.cast_ofNat_Int, Bool.not_not, false_eq_decide, true_eq_decide, hread0, hreadk, read_cons0, read_consk, astore_h0, astore_hk, hget0, hgetk, hset0, hsetk, hlen, hcat, Nat.add_assoc, Nat.add_zero, Nat.zero_add, List.length_append, and_true, true_and, AV.flat, hvo2, one_solid hvo2, one_cells hvo2, hwo, one_solid hwo, one_cells hwo, hpo, one_solid hpo, one_cells hpo, *, -hK, -hXm, -hXp, -hwl, -hinv, -hvl, -ov3, -ov4, -ow, -k4, -hl3, -back3, -hll, -hJ4] | with_reducible refine IfB_dec (fun h => ?_) (fun h => ?_) | with_reducible refine Guard_dec (fun h => ?_) (fun h => ?_) | with_reducible refine Guard_ndec (fun h => ?_) (fun h => ?_) | with_reducible refine Guard_not (fun h => ?_) (fun h => ?_) | with_reducible refine IfB_ndec (fun h => ?_) (fun h => ?_) | with_reducible refine IfB_not (fun h => ?_) (fun h => ?_) | with_reducible refine Guard_split (fun h => ?_) (fun h => ?_) | with_reducible refine IfB_split (fun h => ?_) (fun h => ?_))
                refine WX_rows hT hmix [(0, none), (1, none), (2, none), (3, none), (4, none), (5, none), (6, none), (7, none), (8, none), (9, none), (10, none), (11, none), (12, none)] (by kernel_rfl) ?_
                repeat' (first | simp only [go_sem, Nat.reduceLT, Nat.reduceEqDiff, Nat.reduceAdd, Nat.reduceMul, Nat.reduceSub, Nat.reduceLeDiff, Int.reduceToNat, Int.reduceNeg, Int.reduceLT, Int.reduceLE, Int.reduceEq, reduceCtorEq, Int.natCast_zero, Int.natCast_one, Int.cast_ofNat_Int, Bool.not_not, false_eq_decide, true_eq_decide, hread0, hreadk, read_cons0, read_consk, astore_h0, astore_hk, hget0, hgetk, hset0, hsetk, hlen, hcat, Nat.add_assoc, Nat.add_zero, Nat.zero_add, List.length_append, and_true, true_and, AV.flat, hvo2, one_solid hvo2, one_cells hvo2, hwo, one_solid hwo, one_cells hwo, hpo, one_solid hpo, one_cells hpo, *, -hK, -hXm, -hXp, -hwl, -hinv, -hvl, -ov3, -ov4, -ow, -k4, -hl3, -back3, -hll, -hJ4] | with_reducible refine IfB_dec (fun h => ?_) (fun h => ?_) | with_reducible refine Guard_dec (fun h => ?_) (fun h => ?_) | with_reducible refine Guard_ndec (fun h => ?_) (fun h => ?_) | with_reducible refine Guard_not (fun h => ?_) (fun h => ?_) | with_reducible refine IfB_ndec (fun h => ?_) (fun h => ?_) | with_reducible refine IfB_not (fun h => ?_) (fun h => ?_) | with_reducible refine Guard_split (fun h => ?_) (fun h => ?_) | with_reducible refine IfB_split (fun h => ?_) (fun h => ?_))
                exact back3 _ _ (by (repeat (first | exact hs | refine hA _ _ _ (by decide) ?_))) (by simp only [go_sem, Nat.reduceLT, Nat.reduceEqDiff, Nat.reduceAdd, Nat.reduceMul, Nat.reduceSub, Nat.reduceLeDiff, Int.reduceToNat, Int.reduceNeg, Int.reduceLT, Int.reduceLE, Int.reduceEq, reduceCtorEq]) (by simp only [go_sem, Nat.reduceLT, Nat.reduceEqDiff, Nat.reduceAdd, Nat.reduceMul, Nat.reduceSub, Nat.reduceLeDiff, Int.reduceToNat, Int.reduceNeg, Int.reduceLT, Int.reduceLE, Int.reduceEq, reduceCtorEq]) rfl (by repeat (first | exact hAf3 | refine hA0 _ _ _ (by decide) ?_)) (by repeat (first | exact hBf3 | refine hB0 _ _ _ (by decide) ?_))
              · rw [show decide ((⟨yc, yt, yk⟩ : Pu) = ⟨xc, xt, xk⟩) = false by simp [h3]] at back3
                subst h1 h2
                repeat' (first | simp only [go_sem, Nat.reduceLT, Nat.reduceEqDiff, Nat.reduceAdd, Nat.reduceMul, Nat.reduceSub, Nat.reduceLeDiff, Int.reduceToNat, Int.reduceNeg, Int.reduceLT, Int.reduceLE, Int.reduceEq, reduceCtorEq, Int.natCast_zero, Int.natCast_one, Int.cast_ofNat_Int, Bool.not_not, false_eq_decide, true_eq_decide, hread0, hreadk, read_cons0, read_consk, astore_h0, astore_hk, hget0, hgetk, hset0, hsetk, hlen, hcat, Nat.add_assoc, Nat.add_zero, Nat.zero_add, List.length_append, and_true, true_and, AV.flat, hvo2, one_solid hvo2, one_cells hvo2, hwo, one_solid hwo, one_cells hwo, hpo, one_solid hpo, one_cells hpo, *, -hK, -hXm, -hXp, -hwl, -hinv, -hvl, -ov3, -ov4, -ow, -k4, -hl3, -back3, -hll, -hJ4] | with_reducible refine IfB_dec (fun h => ?_) (fun h => ?_) | with_reducible refine Guard_dec (fun h => ?_) (fun h => ?_) | with_reducible refine Guard_ndec (fun h => ?_) (fun h => ?_) | with_reducible refine Guard_not (fun h => ?_) (fun h => ?_) | with_reducible refine IfB_ndec (fun h => ?_) (fun h => ?_) | with_reducible refine IfB_not (fun h => ?_) (fun h => ?_) | with_reducible refine Guard_split (fun h => ?_) (fun h => ?_) | with_reducible refine IfB_split (fun h => ?_) (fun h => ?_))
                refine WX_rows hT hmix [(0, none), (1, none), (2, none), (3, none), (4, none), (5, none), (6, none), (7, none), (8, none), (9, none), (10, none), (11, none), (12, none)] (by kernel_rfl) ?_
                repeat' (first | simp only [go_sem, Nat.reduceLT, Nat.reduceEqDiff, Nat.reduceAdd, Nat.reduceMul, Nat.reduceSub, Nat.reduceLeDiff, Int.reduceToNat, Int.reduceNeg, Int.reduceLT, Int.reduceLE, Int.reduceEq, reduceCtorEq, Int.natCast_zero, Int.natCast_one, Int.cast_ofNat_Int, Bool.not_not, false_eq_decide, true_eq_decide, hread0, hreadk, read_cons0, read_consk, astore_h0, astore_hk, hget0, hgetk, hset0, hsetk, hlen, hcat, Nat.add_assoc, Nat.add_zero, Nat.zero_add, List.length_append, and_true, true_and, AV.flat, hvo2, one_solid hvo2, one_cells hvo2, hwo, one_solid hwo, one_cells hwo, hpo, one_solid hpo, one_cells hpo, *, -hK, -hXm, -hXp, -hwl, -hinv, -hvl, -ov3, -ov4, -ow, -k4, -hl3, -back3, -hll, -hJ4] | with_reducible refine IfB_dec (fun h => ?_) (fun h => ?_) | with_reducible refine Guard_dec (fun h => ?_) (fun h => ?_) | with_reducible refine Guard_ndec (fun h => ?_) (fun h => ?_) | with_reducible refine Guard_not (fun h => ?_) (fun h => ?_) | with_reducible refine IfB_ndec (fun h => ?_) (fun h => ?_) | with_reducible refine IfB_not (fun h => ?_) (fun h => ?_) | with_reducible refine Guard_split (fun h => ?_) (fun h => ?_) | with_reducible refine IfB_split (fun h => ?_) (fun h => ?_))
                exact back3 _ _ (by (repeat (first | exact hs | refine hA _ _ _ (by decide) ?_))) (by simp only [go_sem, Nat.reduceLT, Nat.reduceEqDiff, Nat.reduceAdd, Nat.reduceMul, Nat.reduceSub, Nat.reduceLeDiff, Int.reduceToNat, Int.reduceNeg, Int.reduceLT, Int.reduceLE, Int.reduceEq, reduceCtorEq]) (by simp only [go_sem, Nat.reduceLT, Nat.reduceEqDiff, Nat.reduceAdd, Nat.reduceMul, Nat.reduceSub, Nat.reduceLeDiff, Int.reduceToNat, Int.reduceNeg, Int.reduceLT, Int.reduceLE, Int.reduceEq, reduceCtorEq]) rfl (by repeat (first | exact hAf3 | refine hA0 _ _ _ (by decide) ?_)) (by repeat (first | exact hBf3 | refine hB0 _ _ _ (by decide) ?_))
            · rw [show decide ((⟨yc, yt, yk⟩ : Pu) = ⟨xc, xt, xk⟩) = false by simp [h2]] at back3
              subst h1
              repeat' (first | simp only [go_sem, Nat.reduceLT, Nat.reduceEqDiff, Nat.reduceAdd, Nat.reduceMul, Nat.reduceSub, Nat.reduceLeDiff, Int.reduceToNat, Int.reduceNeg, Int.reduceLT, Int.reduceLE, Int.reduceEq, reduceCtorEq, Int.natCast_zero, Int.natCast_one, Int.cast_ofNat_Int, Bool.not_not, false_eq_decide, true_eq_decide, hread0, hreadk, read_cons0, read_consk, astore_h0, astore_hk, hget0, hgetk, hset0, hsetk, hlen, hcat, Nat.add_assoc, Nat.add_zero, Nat.zero_add, List.length_append, and_true, true_and, AV.flat, hvo2, one_solid hvo2, one_cells hvo2, hwo, one_solid hwo, one_cells hwo, hpo, one_solid hpo, one_cells hpo, *, -hK, -hXm, -hXp, -hwl, -hinv, -hvl, -ov3, -ov4, -ow, -k4, -hl3, -back3, -hll, -hJ4] | with_reducible refine IfB_dec (fun h => ?_) (fun h => ?_) | with_reducible refine Guard_dec (fun h => ?_) (fun h => ?_) | with_reducible refine Guard_ndec (fun h => ?_) (fun h => ?_) | with_reducible refine Guard_not (fun h => ?_) (fun h => ?_) | with_reducible refine IfB_ndec (fun h => ?_) (fun h => ?_) | with_reducible refine IfB_not (fun h => ?_) (fun h => ?_) | with_reducible refine Guard_split (fun h => ?_) (fun h => ?_) | with_reducible refine IfB_split (fun h => ?_) (fun h => ?_))
              refine WX_rows hT hmix [(0, none), (1, none), (2, none), (3, none), (4, none), (5, none), (6, none), (7, none), (8, none), (9, none), (10, none), (11, none), (12, none)] (by kernel_rfl) ?_
              repeat' (first | simp only [go_sem, Nat.reduceLT, Nat.reduceEqDiff, Nat.reduceAdd, Nat.reduceMul, Nat.reduceSub, Nat.reduceLeDiff, Int.reduceToNat, Int.reduceNeg, Int.reduceLT, Int.reduceLE, Int.reduceEq, reduceCtorEq, Int.natCast_zero, Int.natCast_one, Int.cast_ofNat_Int, Bool.not_not, false_eq_decide, true_eq_decide, hread0, hreadk, read_cons0, read_consk, astore_h0, astore_hk, hget0, hgetk, hset0, hsetk, hlen, hcat, Nat.add_assoc, Nat.add_zero, Nat.zero_add, List.length_append, and_true, true_and, AV.flat, hvo2, one_solid hvo2, one_cells hvo2, hwo, one_solid hwo, one_cells hwo, hpo, one_solid hpo, one_cells hpo, *, -hK, -hXm, -hXp, -hwl, -hinv, -hvl, -ov3, -ov4, -ow, -k4, -hl3, -back3, -hll, -hJ4] | with_reducible refine IfB_dec (fun h => ?_) (fun h => ?_) | with_reducible refine Guard_dec (fun h => ?_) (fun h => ?_) | with_reducible refine Guard_ndec (fun h => ?_) (fun h => ?_) | with_reducible refine Guard_not (fun h => ?_) (fun h => ?_) | with_reducible refine IfB_ndec (fun h => ?_) (fun h => ?_) | with_reducible refine IfB_not (fun h => ?_) (fun h => ?_) | with_reducible refine Guard_split (fun h => ?_) (fun h => ?_) | with_reducible refine IfB_split (fun h => ?_) (fun h => ?_))
              exact back3 _ _ (by (repeat (first | exact hs | refine hA _ _ _ (by decide) ?_))) (by simp only [go_sem, Nat.reduceLT, Nat.reduceEqDiff, Nat.reduceAdd, Nat.reduceMul, Nat.reduceSub, Nat.reduceLeDiff, Int.reduceToNat, Int.reduceNeg, Int.reduceLT, Int.reduceLE, Int.reduceEq, reduceCtorEq]) (by simp only [go_sem, Nat.reduceLT, Nat.reduceEqDiff, Nat.reduceAdd, Nat.reduceMul, Nat.reduceSub, Nat.reduceLeDiff, Int.reduceToNat, Int.reduceNeg, Int.reduceLT, Int.reduceLE, Int.reduceEq, reduceCtorEq]) rfl (by repeat (first | exact hAf3 | refine hA0 _ _ _ (by decide) ?_)) (by repeat (first | exact hBf3 | refine hB0 _ _ _ (by decide) ?_))
          · rw [show decide ((⟨yc, yt, yk⟩ : Pu) = ⟨xc, xt, xk⟩) = false by simp [h1]] at back3
            repeat' (first | simp only [go_sem, Nat.reduceLT, Nat.reduceEqDiff, Nat.reduceAdd, Nat.reduceMul, Nat.reduceSub, Nat.reduceLeDiff, Int.reduceToNat, Int.reduceNeg, Int.reduceLT, Int.reduceLE, Int.reduceEq, reduceCtorEq, Int.natCast_zero, Int.natCast_one, Int.cast_ofNat_Int, Bool.not_not, false_eq_decide, true_eq_decide, hread0, hreadk, read_cons0, read_consk, astore_h0, astore_hk, hget0, hgetk, hset0, hsetk, hlen, hcat, Nat.add_assoc, Nat.add_zero, Nat.zero_add, List.length_append, and_true, true_and, AV.flat, hvo2, one_solid hvo2, one_cells hvo2, hwo, one_solid hwo, one_cells hwo, hpo, one_solid hpo, one_cells hpo, *, -hK, -hXm, -hXp, -hwl, -hinv, -hvl, -ov3, -ov4, -ow, -k4, -hl3, -back3, -hll, -hJ4] | with_reducible refine IfB_dec (fun h => ?_) (fun h => ?_) | with_reducible refine Guard_dec (fun h => ?_) (fun h => ?_) | with_reducible refine Guard_ndec (fun h => ?_) (fun h => ?_) | with_reducible refine Guard_not (fun h => ?_) (fun h => ?_) | with_reducible refine IfB_ndec (fun h => ?_) (fun h => ?_) | with_reducible refine IfB_not (fun h => ?_) (fun h => ?_) | with_reducible refine Guard_split (fun h => ?_) (fun h => ?_) | with_reducible refine IfB_split (fun h => ?_) (fun h => ?_))
            refine WX_rows hT hmix [(0, none), (1, none), (2, none), (3, none), (4, none), (5, none), (6, none), (7, none), (8, none), (9, none), (10, none), (11, none), (12, none)] (by kernel_rfl) ?_
            repeat' (first | simp only [go_sem, Nat.reduceLT, Nat.reduceEqDiff, Nat.reduceAdd, Nat.reduceMul, Nat.reduceSub, Nat.reduceLeDiff, Int.reduceToNat, Int.reduceNeg, Int.reduceLT, Int.reduceLE, Int.reduceEq, reduceCtorEq, Int.natCast_zero, Int.natCast_one, Int.cast_ofNat_Int, Bool.not_not, false_eq_decide, true_eq_decide, hread0, hreadk, read_cons0, read_consk, astore_h0, astore_hk, hget0, hgetk, hset0, hsetk, hlen, hcat, Nat.add_assoc, Nat.add_zero, Nat.zero_add, List.length_append, and_true, true_and, AV.flat, hvo2, one_solid hvo2, one_cells hvo2, hwo, one_solid hwo, one_cells hwo, hpo, one_solid hpo, one_cells hpo, *, -hK, -hXm, -hXp, -hwl, -hinv, -hvl, -ov3, -ov4, -ow, -k4, -hl3, -back3, -hll, -hJ4] | with_reducible refine IfB_dec (fun h => ?_) (fun h => ?_) | with_reducible refine Guard_dec (fun h => ?_) (fun h => ?_) | with_reducible refine Guard_ndec (fun h => ?_) (fun h => ?_) | with_reducible refine Guard_not (fun h => ?_) (fun h => ?_) | with_reducible refine IfB_ndec (fun h => ?_) (fun h => ?_) | with_reducible refine IfB_not (fun h => ?_) (fun h => ?_) | with_reducible refine Guard_split (fun h => ?_) (fun h => ?_) | with_reducible refine IfB_split (fun h => ?_) (fun h => ?_))
            exact back3 _ _ (by (repeat (first | exact hs | refine hA _ _ _ (by decide) ?_))) (by simp only [go_sem, Nat.reduceLT, Nat.reduceEqDiff, Nat.reduceAdd, Nat.reduceMul, Nat.reduceSub, Nat.reduceLeDiff, Int.reduceToNat, Int.reduceNeg, Int.reduceLT, Int.reduceLE, Int.reduceEq, reduceCtorEq]) (by simp only [go_sem, Nat.reduceLT, Nat.reduceEqDiff, Nat.reduceAdd, Nat.reduceMul, Nat.reduceSub, Nat.reduceLeDiff, Int.reduceToNat, Int.reduceNeg, Int.reduceLT, Int.reduceLE, Int.reduceEq, reduceCtorEq]) rfl (by repeat (first | exact hAf3 | refine hA0 _ _ _ (by decide) ?_)) (by repeat (first | exact hBf3 | refine hB0 _ _ _ (by decide) ?_))
      have i8 : ¬ (z : Int) < P.length := by omega
      have hze : z = P.length := by omega
      rw [hze, List.take_length] at f16
      by_cases hxP : x ∈ P
      · rw [decide_eq_true hxP] at f16
        rw [if_pos hxP, List.append_nil] at back2
        repeat' (first | simp only [go_sem, Nat.reduceLT, Nat.reduceEqDiff, Nat.reduceAdd, Nat.reduceMul, Nat.reduceSub, Nat.reduceLeDiff, Int.reduceToNat, Int.reduceNeg, Int.reduceLT, Int.reduceLE, Int.reduceEq, reduceCtorEq, Int.natCast_zero, Int.natCast_one, Int.cast_ofNat_Int, Bool.not_not, false_eq_decide, true_eq_decide, hread0, hreadk, read_cons0, read_consk, astore_h0, astore_hk, hget0, hgetk, hset0, hsetk, hlen, hcat, Nat.add_assoc, Nat.add_zero, Nat.zero_add, List.length_append, and_true, true_and, AV.flat, hvo2, one_solid hvo2, one_cells hvo2, hwo, one_solid hwo, one_cells hwo, hpo, one_solid hpo, one_cells hpo, *, -hK, -hXm, -hXp, -hwl, -hinv, -hvl, -ov3, -ov4, -ow, -k4, -hl3, -back2, -hll, -hJ4, -hze, -hxP, -e2] | with_reducible refine IfB_dec (fun h => ?_) (fun h => ?_) | with_reducible refine Guard_dec (fun h => ?_) (fun h => ?_) | with_reducible refine Guard_ndec (fun h => ?_) (fun h => ?_) | with_reducible refine Guard_not (fun h => ?_) (fun h => ?_) | with_reducible refine IfB_ndec (fun h => ?_) (fun h => ?_) | with_reducible refine IfB_not (fun h => ?_) (fun h => ?_) | with_reducible refine Guard_split (fun h => ?_) (fun h => ?_) | with_reducible refine IfB_split (fun h => ?_) (fun h => ?_))
        exact back2 _ _ _ (by repeat (first | exact hBf3 | refine hB0 _ _ _ (by decide) ?_)) (by simp only [go_sem, Nat.reduceLT, Nat.reduceEqDiff, Nat.reduceAdd, Nat.reduceMul, Nat.reduceSub, Nat.reduceLeDiff, Int.reduceToNat, Int.reduceNeg, Int.reduceLT, Int.reduceLE, Int.reduceEq, reduceCtorEq]) (by simp only [go_sem, Nat.reduceLT, Nat.reduceEqDiff, Nat.reduceAdd, Nat.reduceMul, Nat.reduceSub, Nat.reduceLeDiff, Int.reduceToNat, Int.reduceNeg, Int.reduceLT, Int.reduceLE, Int.reduceEq, reduceCtorEq]; exact s14) ow k4 (by repeat (first | exact hAf3 | refine hA0 _ _ _ (by decide) ?_))
      · rw [decide_eq_false hxP] at f16
        rw [if_neg hxP] at back2
        repeat' (first | simp only [go_sem, Nat.reduceLT, Nat.reduceEqDiff, Nat.reduceAdd, Nat.reduceMul, Nat.reduceSub, Nat.reduceLeDiff, Int.reduceToNat, Int.reduceNeg, Int.reduceLT, Int.reduceLE, Int.reduceEq, reduceCtorEq, Int.natCast_zero, Int.natCast_one, Int.cast_ofNat_Int, Bool.not_not, false_eq_decide, true_eq_decide, hread0, hreadk, read_cons0, read_consk, astore_h0, astore_hk, hget0, hgetk, hset0, hsetk, hlen, hcat, Nat.add_assoc, Nat.add_zero, Nat.zero_add, List.length_append, and_true, true_and, AV.flat, hvo2, one_solid hvo2, one_cells hvo2, hwo, one_solid hwo, one_cells hwo, hpo, one_solid hpo, one_cells hpo, *, -hK, -hXm, -hXp, -hwl, -hinv, -hvl, -ov3, -ov4, -ow, -k4, -hl3, -back2, -hll, -hJ4, -hze, -hxP] | with_reducible refine IfB_dec (fun h => ?_) (fun h => ?_) | with_reducible refine Guard_dec (fun h => ?_) (fun h => ?_) | with_reducible refine Guard_ndec (fun h => ?_) (fun h => ?_) | with_reducible refine Guard_not (fun h => ?_) (fun h => ?_) | with_reducible refine IfB_ndec (fun h => ?_) (fun h => ?_) | with_reducible refine IfB_not (fun h => ?_) (fun h => ?_) | with_reducible refine Guard_split (fun h => ?_) (fun h => ?_) | with_reducible refine IfB_split (fun h => ?_) (fun h => ?_))
        refine append1_enc (E := puE) (x := x) ow rfl se31 az47 td47 tk31 rfl rfl (by decide) (by show (_ + 1) * 99 ≤ _; omega) hJ4 ?_
        intro v5 H5 o5 k5 hn5
        have hv5 := o5.one
        repeat' (first | simp only [go_sem, Nat.reduceLT, Nat.reduceEqDiff, Nat.reduceAdd, Nat.reduceMul, Nat.reduceSub, Nat.reduceLeDiff, Int.reduceToNat, Int.reduceNeg, Int.reduceLT, Int.reduceLE, Int.reduceEq, reduceCtorEq, Int.natCast_zero, Int.natCast_one, Int.cast_ofNat_Int, Bool.not_not, false_eq_decide, true_eq_decide, hread0, hreadk, read_cons0, read_consk, astore_h0, astore_hk, hget0, hgetk, hset0, hsetk, hlen, hcat, Nat.add_assoc, Nat.add_zero, Nat.zero_add, List.length_append, and_true, true_and, AV.flat, hvo2, one_solid hvo2, one_cells hvo2, hwo, one_solid hwo, one_cells hwo, hv5, one_solid hv5, one_cells hv5, hpo, one_solid hpo, one_cells hpo, *, -hK, -hXm, -hXp, -hwl, -hinv, -hvl, -ov3, -ov4, -ow, -k4, -hl3, -back2, -hll, -hJ4, -hze, -hxP, -o5, -k5, -hn5] | with_reducible refine IfB_dec (fun h => ?_) (fun h => ?_) | with_reducible refine Guard_dec (fun h => ?_) (fun h => ?_) | with_reducible refine Guard_ndec (fun h => ?_) (fun h => ?_) | with_reducible refine Guard_not (fun h => ?_) (fun h => ?_) | with_reducible refine IfB_ndec (fun h => ?_) (fun h => ?_) | with_reducible refine IfB_not (fun h => ?_) (fun h => ?_) | with_reducible refine Guard_split (fun h => ?_) (fun h => ?_) | with_reducible refine IfB_split (fun h => ?_) (fun h => ?_))
        exact back2 _ _ _ (by repeat (first | exact hBf3 | refine hB0 _ _ _ (by decide) ?_)) (by simp only [go_sem, Nat.reduceLT, Nat.reduceEqDiff, Nat.reduceAdd, Nat.reduceMul, Nat.reduceSub, Nat.reduceLeDiff, Int.reduceToNat, Int.reduceNeg, Int.reduceLT, Int.reduceLE, Int.reduceEq, reduceCtorEq]) rfl (by simp only [go_sem, Nat.reduceLT, Nat.reduceEqDiff, Nat.reduceAdd, Nat.reduceMul, Nat.reduceSub, Nat.reduceLeDiff, Int.reduceToNat, Int.reduceNeg, Int.reduceLT, Int.reduceLE, Int.reduceEq, reduceCtorEq]; exact o5) (k4.via k5 (fun b hb => ow.ge hb)) (by repeat (first | exact hAf3 | refine hA0 _ _ _ (by decide) ?_))
    have i6 : ¬ (q : Int) < hw'.length := by omega
    have hqe : q = hw'.length := by omega
    rw [hqe, List.take_length] at ow
    have hll : (leftL hw' P).length ≤ hw'.length := List.length_filter_le _ _
    have hlp : ∀ p ∈ leftL hw' P, hasP X p := fun p hp => by
      unfold leftL at hp
      rw [List.mem_filter] at hp
      exact hXp p hp.1 (by simpa using hp.2)
    have gt4 := k4.get gt3 (by simp)
    have ow4 : OwnE puE (H.length + 1) J4 w (leftL hw' P) := ow.mono hl3
    have hJ4 : H.length + 1 ≤ J4.length := by have := k4.len; omega
    clear ow k4 gt3 ov3 ov4 hXp hR2 hinv hqe
    generalize leftL hw' P = lf at *
    repeat' (first | simp only [go_sem, Nat.reduceLT, Nat.reduceEqDiff, Nat.reduceAdd, Nat.reduceMul, Nat.reduceSub, Nat.reduceLeDiff, Int.reduceToNat, Int.reduceNeg, Int.reduceLT, Int.reduceLE, Int.reduceEq, reduceCtorEq, Int.natCast_zero, Int.natCast_one, Int.cast_ofNat_Int, Bool.not_not, false_eq_decide, true_eq_decide, hread0, hreadk, read_cons0, read_consk, astore_h0, astore_hk, hget0, hgetk, hset0, hsetk, hlen, hcat, Nat.add_assoc, Nat.add_zero, Nat.zero_add, List.length_append, and_true, true_and, AV.flat, hvo2, one_solid hvo2, one_cells hvo2, hwo, one_solid hwo, one_cells hwo, hpo, one_solid hpo, one_cells hpo, *, -hK, -hXm, -hwl, -hvl, -hl3, -back, -hll, -hlp, -gt4, -ow4, -hJ4, -hlq] | with_reducible refine IfB_dec (fun h => ?_) (fun h => ?_) | with_reducible refine Guard_dec (fun h => ?_) (fun h => ?_) | with_reducible refine Guard_ndec (fun h => ?_) (fun h => ?_) | with_reducible refine Guard_not (fun h => ?_) (fun h => ?_) | with_reducible refine IfB_ndec (fun h => ?_) (fun h => ?_) | with_reducible refine IfB_not (fun h => ?_) (fun h => ?_) | with_reducible refine Guard_split (fun h => ?_) (fun h => ?_) | with_reducible refine IfB_split (fun h => ?_) (fun h => ?_))
    have o1 := s1
    have o5 := s5
    have o6 := s6
    have o9 := s9
    clear hg hs hA s1 s5 s6 s8 s9 s12
    refine WX_loopS [1, 5, 6, 8, 9] (fun k fr' J5 => ∃ (z : Nat), k = lf.length - z ∧ z ≤ lf.length ∧ fr'.get 18 = .int .i64 z ∧ J5 = J4 ∧ A fr') lf.length ⟨0, rfl, by omega, by simp only [go_sem, Nat.reduceLT, Nat.reduceEqDiff, Nat.reduceAdd, Nat.reduceMul, Nat.reduceSub, Nat.reduceLeDiff, Int.reduceToNat, Int.reduceNeg, Int.reduceLT, Int.reduceLE, Int.reduceEq, reduceCtorEq]; rfl, rfl, by repeat (first | exact hAf | refine hA0 _ _ _ (by decide) ?_)⟩ ?_
    rintro k fr' J5 A3 R3 hA hs hg hR3 ⟨z, rfl, hz, f18, rfl, hAf3⟩
    have s1 := hg 1 (by decide)
    have s5 := hg 5 (by decide)
    have s6 := hg 6 (by decide)
    have s8 := hg 8 (by decide)
    have s9 := hg 9 (by decide)
    simp only [Fr.get_put, Fr.get_init, List.getD_cons_zero, List.getD_cons_succ, Nat.reduceEqDiff, if_true, if_false] at s1 s5 s6 s8 s9
    rw [o1] at s1
    rw [o5] at s5
    rw [o6] at s6
    rw [o9] at s9
    clear o1 o5 o6 o9
    refine wx_sound hT _ ?_
    have e0 := ow4.alen (by decide) tk31
    by_cases hlz : z < lf.length
    rotate_left
    · have i8 : ¬ (z : Int) < lf.length := by omega
      repeat' (first | simp only [go_sem, Nat.reduceLT, Nat.reduceEqDiff, Nat.reduceAdd, Nat.reduceMul, Nat.reduceSub, Nat.reduceLeDiff, Int.reduceToNat, Int.reduceNeg, Int.reduceLT, Int.reduceLE, Int.reduceEq, reduceCtorEq, Int.natCast_zero, Int.natCast_one, Int.cast_ofNat_Int, Bool.not_not, false_eq_decide, true_eq_decide, hread0, hreadk, read_cons0, read_consk, astore_h0, astore_hk, hget0, hgetk, hset0, hsetk, hlen, hcat, Nat.add_assoc, Nat.add_zero, Nat.zero_add, List.length_append, and_true, true_and, AV.flat, hwo, one_solid hwo, one_cells hwo, *, -hK, -hXm, -hwl, -hvl, -hl3, -back, -hll, -hlp, -gt4, -ow4, -hJ4, -hlz] | with_reducible refine IfB_dec (fun h => ?_) (fun h => ?_) | with_reducible refine Guard_dec (fun h => ?_) (fun h => ?_) | with_reducible refine Guard_ndec (fun h => ?_) (fun h => ?_) | with_reducible refine Guard_not (fun h => ?_) (fun h => ?_) | with_reducible refine IfB_ndec (fun h => ?_) (fun h => ?_) | with_reducible refine IfB_not (fun h => ?_) (fun h => ?_) | with_reducible refine Guard_split (fun h => ?_) (fun h => ?_) | with_reducible refine IfB_split (fun h => ?_) (fun h => ?_))
      exact back _ _ X lf w (by repeat (first | exact hAf3 | refine hA0 _ _ _ (by decide) ?_)) (by simp only [go_sem, Nat.reduceLT, Nat.reduceEqDiff, Nat.reduceAdd, Nat.reduceMul, Nat.reduceSub, Nat.reduceLeDiff, Int.reduceToNat, Int.reduceNeg, Int.reduceLT, Int.reduceLE, Int.reduceEq, reduceCtorEq]) (by simp only [go_sem, Nat.reduceLT, Nat.reduceEqDiff, Nat.reduceAdd, Nat.reduceMul, Nat.reduceSub, Nat.reduceLeDiff, Int.reduceToNat, Int.reduceNeg, Int.reduceLT, Int.reduceLE, Int.reduceEq, reduceCtorEq]; exact s8) gt4 ow4 hXm hlp (by omega) hJ4
    have i8 : (z : Int) < lf.length := by omega
    have e9 := inc_id hlz (by omega)
    obtain ⟨pb, po, e1, e2, -⟩ := ow4.at_ (by decide) se31 hlz (k := .i64) rfl
    rw [show puE.sz = 3 from rfl, puE_cells] at e2
    obtain ⟨c, hc, hcl2, hin⟩ := hlp _ (List.getElem_mem hlz)
    have hs2 := fun J => has_spec X c ⟨lf[z].ten, lf[z].key⟩ hcl2 (by have := (hXm.2.2 _ (List.getElem_mem hcl2)).1.2; omega) J
    rw [decide_eq_true hin] at hs2
    clear hin hlp
    generalize lf[z] = y at *
    obtain ⟨yc, yt, yk⟩ := y
    simp only at hc e2 hs2
    subst hc
    have e20 := read_sub e2 0 1 (by omega)
    have e21 := read_sub e2 1 2 (by omega)
    simp only [Nat.add_zero, List.drop_zero, List.take_succ_cons, List.take_zero, List.drop_succ_cons] at e20 e21
    unfold trAv Nm.av at hs2
    repeat' (first | simp only [go_sem, Nat.reduceLT, Nat.reduceEqDiff, Nat.reduceAdd, Nat.reduceMul, Nat.reduceSub, Nat.reduceLeDiff, Int.reduceToNat, Int.reduceNeg, Int.reduceLT, Int.reduceLE, Int.reduceEq, reduceCtorEq, Int.natCast_zero, Int.natCast_one, Int.cast_ofNat_Int, Bool.not_not, false_eq_decide, true_eq_decide, hread0, hreadk, read_cons0, read_consk, astore_h0, astore_hk, hget0, hgetk, hset0, hsetk, hlen, hcat, Nat.add_assoc, Nat.add_zero, Nat.zero_add, List.length_append, and_true, true_and, AV.flat, gt4, get_app gt4, read_get gt4, read_app gt4, hwo, one_solid hwo, one_cells hwo, *, -hK, -hXm, -hwl, -hvl, -hl3, -back, -hll, -gt4, -ow4, -hJ4, -hs2, -e2] | with_reducible refine IfB_dec (fun h => ?_) (fun h => ?_) | with_reducible refine Guard_dec (fun h => ?_) (fun h => ?_) | with_reducible refine Guard_ndec (fun h => ?_) (fun h => ?_) | with_reducible refine Guard_not (fun h => ?_) (fun h => ?_) | with_reducible refine IfB_ndec (fun h => ?_) (fun h => ?_) | with_reducible refine IfB_not (fun h => ?_) (fun h => ?_) | with_reducible refine Guard_split (fun h => ?_) (fun h => ?_) | with_reducible refine IfB_split (fun h => ?_) (fun h => ?_))
    refine WX_rows hT hmix [(0, none), (1, none), (2, none), (3, none), (4, none), (5, none), (6, none), (7, none), (8, none), (9, none), (10, none), (11, some [true, true, true, true, true, true, true, true, true, true, true]), (12, none)] (by kernel_rfl) ?_
    repeat' (first | simp only [go_sem, Nat.reduceLT, Nat.reduceEqDiff, Nat.reduceAdd, Nat.reduceMul, Nat.reduceSub, Nat.reduceLeDiff, Int.reduceToNat, Int.reduceNeg, Int.reduceLT, Int.reduceLE, Int.reduceEq, reduceCtorEq, Int.natCast_zero, Int.natCast_one, Int.cast_ofNat_Int, Bool.not_not, false_eq_decide, true_eq_decide, hread0, hreadk, read_cons0, read_consk, astore_h0, astore_hk, hget0, hgetk, hset0, hsetk, hlen, hcat, Nat.add_assoc, Nat.add_zero, Nat.zero_add, List.length_append, and_true, true_and, AV.flat, gt4, get_app gt4, read_get gt4, read_app gt4, hwo, one_solid hwo, one_cells hwo, *, -hK, -hXm, -hwl, -hvl, -hl3, -back, -hll, -gt4, -ow4, -hJ4, -hs2, -e2] | refine WC.call (hs2 _) ?_ | with_reducible refine IfB_dec (fun h => ?_) (fun h => ?_) | with_reducible refine Guard_dec (fun h => ?_) (fun h => ?_) | with_reducible refine Guard_ndec (fun h => ?_) (fun h => ?_) | with_reducible refine Guard_not (fun h => ?_) (fun h => ?_) | with_reducible refine IfB_ndec (fun h => ?_) (fun h => ?_) | with_reducible refine IfB_not (fun h => ?_) (fun h => ?_) | with_reducible refine Guard_split (fun h => ?_) (fun h => ?_) | with_reducible refine IfB_split (fun h => ?_) (fun h => ?_))
    exact hR3 _ _ (by (repeat (first | exact hs | refine hA _ _ _ (by decide) ?_))) (lf.length - (z + 1)) (by omega) ⟨z + 1, rfl, by omega, by simp only [go_sem, Nat.reduceLT, Nat.reduceEqDiff, Nat.reduceAdd, Nat.reduceMul, Nat.reduceSub, Nat.reduceLeDiff, Int.reduceToNat, Int.reduceNeg, Int.reduceLT, Int.reduceLE, Int.reduceEq, reduceCtorEq], rfl, by repeat (first | exact hAf3 | refine hA0 _ _ _ (by decide) ?_)⟩
  by_cases m4 : ak.tmod 5 = 4
  · have cg := fun J => off_spec ts ac (by omega) hts J
    have gk := hkey [.int .u8 ak, .int .i64 ac, .int .i64 at_, .str ay, chgE.lst ach] [.nils]
    unfold trAv at cg
    by_cases ha : askE ts ac = 0
    rotate_left
    · rw [if_neg ha] at cg
      generalize askE ts ac = e at *
      have ls := fun G k => less_own (H.length + 1) v hv ac e (by omega) G (ov.keep0 k)
      repeat' (first | simp only [go_sem, Nat.reduceLT, Nat.reduceEqDiff, Nat.reduceAdd, Nat.reduceMul, Nat.reduceSub, Nat.reduceLeDiff, Int.reduceToNat, Int.reduceNeg, Int.reduceLT, Int.reduceLE, Int.reduceEq, reduceCtorEq, Int.natCast_zero, Int.natCast_one, Int.cast_ofNat_Int, Bool.not_not, false_eq_decide, true_eq_decide, hread0, hreadk, read_cons0, read_consk, astore_h0, astore_hk, hget0, hgetk, hset0, hsetk, hlen, hcat, Nat.add_assoc, Nat.add_zero, Nat.zero_add, List.length_append, and_true, true_and, AV.flat, gk, get_app gk, read_get gk, read_app gk, hvo, one_solid hvo, one_cells hvo, *, -hK, -gt, -ov, -hm, -hinv, -hvl, -hJ, -hk1, -hco, -back, -hts, -ht8, -hkey, -cg, -gk, -ls] | refine WC.call (cg _) ?_ | with_reducible refine IfB_dec (fun h => ?_) (fun h => ?_) | with_reducible refine Guard_dec (fun h => ?_) (fun h => ?_) | with_reducible refine Guard_ndec (fun h => ?_) (fun h => ?_) | with_reducible refine Guard_not (fun h => ?_) (fun h => ?_) | with_reducible refine IfB_ndec (fun h => ?_) (fun h => ?_) | with_reducible refine IfB_not (fun h => ?_) (fun h => ?_) | with_reducible refine Guard_split (fun h => ?_) (fun h => ?_) | with_reducible refine IfB_split (fun h => ?_) (fun h => ?_))
      refine (ls _ (Keep.app none J _) (by simp; omega)).mono ?_
      rintro r H2 ⟨oo, k2⟩
      rw [if_neg ha] at oo
      have hro := oo.one
      repeat' (first | simp only [go_sem, Nat.reduceLT, Nat.reduceEqDiff, Nat.reduceAdd, Nat.reduceMul, Nat.reduceSub, Nat.reduceLeDiff, Int.reduceToNat, Int.reduceNeg, Int.reduceLT, Int.reduceLE, Int.reduceEq, reduceCtorEq, Int.natCast_zero, Int.natCast_one, Int.cast_ofNat_Int, Bool.not_not, false_eq_decide, true_eq_decide, hread0, hreadk, read_cons0, read_consk, astore_h0, astore_hk, hget0, hgetk, hset0, hsetk, hlen, hcat, Nat.add_assoc, Nat.add_zero, Nat.zero_add, List.length_append, and_true, true_and, AV.flat, hro, one_solid hro, one_cells hro, *, -hK, -gt, -ov, -hm, -hinv, -hvl, -hJ, -hk1, -hco, -back, -hts, -ht8, -hkey, -cg, -gk, -ls, -oo, -k2] | with_reducible refine IfB_dec (fun h => ?_) (fun h => ?_) | with_reducible refine Guard_dec (fun h => ?_) (fun h => ?_) | with_reducible refine Guard_ndec (fun h => ?_) (fun h => ?_) | with_reducible refine Guard_not (fun h => ?_) (fun h => ?_) | with_reducible refine IfB_ndec (fun h => ?_) (fun h => ?_) | with_reducible refine IfB_not (fun h => ?_) (fun h => ?_) | with_reducible refine Guard_split (fun h => ?_) (fun h => ?_) | with_reducible refine IfB_split (fun h => ?_) (fun h => ?_))
      exact back _ _ ts hv r (by (repeat (first | exact hs | refine hA _ _ _ (by decide) ?_))) (by simp only [go_sem, Nat.reduceLT, Nat.reduceEqDiff, Nat.reduceAdd, Nat.reduceMul, Nat.reduceSub, Nat.reduceLeDiff, Int.reduceToNat, Int.reduceNeg, Int.reduceLT, Int.reduceLE, Int.reduceEq, reduceCtorEq]) rfl (k2.get (hkey _ _) (by simp)) oo hm hinv (by omega) (by have := k2.len; simp at this; omega)
    obtain ⟨-, hi0, hi1⟩ := askE_ok ha
    obtain ⟨j, rfl⟩ : ∃ j : Nat, ac = j := ⟨ac.toNat, by omega⟩
    have hj : j < ts.length := by omega
    rw [ha, if_pos rfl, Int.toNat_natCast] at cg
    have hmj := hm.2.2 _ (List.getElem_mem hj)
    have hXm : trMay (ts.set j ⟨false, []⟩) := trMay_set hm _ ⟨⟨.inr rfl, by simp⟩, by simp, by simp⟩
    have hXp : ∀ p ∈ hv.filter (fun p => !decide (p.conn = (j : Int))), p ∉ ([] : List Pu) → hasP (ts.set j ⟨false, []⟩) p := fun p hp _ => by
      rw [List.mem_filter] at hp
      exact hasP_set hj (hinv p hp.1) fun hc => absurd hp.2 (by simp [hc])
    have hfl : (hv.filter (fun p => !decide (p.conn = (j : Int)))).length ≤ hv.length := List.length_filter_le _ _
    generalize ts.set j ⟨false, []⟩ = X at *
    clear ha hi0 hi1
    have ls := fun G k => less_own (H.length + 1) v hv j 0 (by omega) G (ov.keep0 k)
    repeat' (first | simp only [go_sem, Nat.reduceLT, Nat.reduceEqDiff, Nat.reduceAdd, Nat.reduceMul, Nat.reduceSub, Nat.reduceLeDiff, Int.reduceToNat, Int.reduceNeg, Int.reduceLT, Int.reduceLE, Int.reduceEq, reduceCtorEq, Int.natCast_zero, Int.natCast_one, Int.cast_ofNat_Int, Bool.not_not, false_eq_decide, true_eq_decide, hread0, hreadk, read_cons0, read_consk, astore_h0, astore_hk, hget0, hgetk, hset0, hsetk, hlen, hcat, Nat.add_assoc, Nat.add_zero, Nat.zero_add, List.length_append, and_true, true_and, AV.flat, gk, get_app gk, read_get gk, read_app gk, hvo, one_solid hvo, one_cells hvo, *, -hK, -gt, -ov, -hm, -hinv, -hvl, -hJ, -hk1, -hco, -back, -hts, -ht8, -hkey, -cg, -gk, -hXm, -hXp, -hmj, -ls, -hfl] | refine WC.call (cg _) ?_ | with_reducible refine IfB_dec (fun h => ?_) (fun h => ?_) | with_reducible refine Guard_dec (fun h => ?_) (fun h => ?_) | with_reducible refine Guard_ndec (fun h => ?_) (fun h => ?_) | with_reducible refine Guard_not (fun h => ?_) (fun h => ?_) | with_reducible refine IfB_ndec (fun h => ?_) (fun h => ?_) | with_reducible refine IfB_not (fun h => ?_) (fun h => ?_) | with_reducible refine Guard_split (fun h => ?_) (fun h => ?_) | with_reducible refine IfB_split (fun h => ?_) (fun h => ?_))
    refine (ls _ (Keep.app none J _) (by simp; omega)).mono ?_
    rintro r G2 ⟨ov2, k2⟩
    rw [if_pos rfl] at ov2
    have hro := ov2.one
    repeat' (first | simp only [go_sem, Nat.reduceLT, Nat.reduceEqDiff, Nat.reduceAdd, Nat.reduceMul, Nat.reduceSub, Nat.reduceLeDiff, Int.reduceToNat, Int.reduceNeg, Int.reduceLT, Int.reduceLE, Int.reduceEq, reduceCtorEq, Int.natCast_zero, Int.natCast_one, Int.cast_ofNat_Int, Bool.not_not, false_eq_decide, true_eq_decide, hread0, hreadk, read_cons0, read_consk, astore_h0, astore_hk, hget0, hgetk, hset0, hsetk, hlen, hcat, Nat.add_assoc, Nat.add_zero, Nat.zero_add, List.length_append, and_true, true_and, AV.flat, hro, one_solid hro, one_cells hro, *, -hK, -gt, -ov, -hm, -hinv, -hvl, -hJ, -hk1, -hco, -back, -hts, -ht8, -hkey, -cg, -gk, -ls, -ov2, -k2, -hXm, -hXp, -hmj, -hfl] | with_reducible refine IfB_dec (fun h => ?_) (fun h => ?_) | with_reducible refine Guard_dec (fun h => ?_) (fun h => ?_) | with_reducible refine Guard_ndec (fun h => ?_) (fun h => ?_) | with_reducible refine Guard_not (fun h => ?_) (fun h => ?_) | with_reducible refine IfB_ndec (fun h => ?_) (fun h => ?_) | with_reducible refine IfB_not (fun h => ?_) (fun h => ?_) | with_reducible refine Guard_split (fun h => ?_) (fun h => ?_) | with_reducible refine IfB_split (fun h => ?_) (fun h => ?_))
    have gt2 := k2.get (hkey [.int .u8 ak, .int .i64 (j : Int), .int .i64 at_, .str ay, chgE.lst ach] [tkE.lst X]) (by simp)
    have gx2 := k2.get (b := J.length + 1) (B := ⟨[tkE.lst X], 0, .full⟩) (by rw [hgetk]; rfl) (by simp)
    have hJl : J.length + 2 ≤ G2.length := by have := k2.len; simpa using this
    have hPV : PV .nils [] := .inr ⟨rfl, rfl⟩
    generalize hv.filter (fun p => !decide (p.conn = (j : Int))) = hv2 at *
    generalize ([] : List Pu) = P at *
    have hwl : hv2.length ≤ i + 1 := by omega
    have hPl : P.length ≤ 128 := by rcases hPV with h | ⟨_, h⟩ <;> first | (rw [h]; simp) | cases h
    clear hkey cg e1 hk1 hco hcl gk gt ov hmj ls k2 hvo
    have hvo := hro
    have gt3 : (List.set G2 H.length ⟨[tkE.lst X], 0, .full⟩ : Heap)[H.length]? = some ⟨[tkE.lst X], 0, .full⟩ := List.getElem?_set_self (by omega)
    have ov3 : OwnE puE (H.length + 1) (List.set G2 H.length ⟨[tkE.lst X], 0, .full⟩ : Heap) r hv2 := ov2.keep (Keep.of_set rfl) (fun b hb e => by cases hb; have := ov2.ge e; omega)
    have hl3 : H.length + 1 ≤ (List.set G2 H.length ⟨[tkE.lst X], 0, .full⟩ : Heap).length := by simp; omega
    repeat' (first | simp only [go_sem, Nat.reduceLT, Nat.reduceEqDiff, Nat.reduceAdd, Nat.reduceMul, Nat.reduceSub, Nat.reduceLeDiff, Int.reduceToNat, Int.reduceNeg, Int.reduceLT, Int.reduceLE, Int.reduceEq, reduceCtorEq, Int.natCast_zero, Int.natCast_one, Int.cast_ofNat_Int, Bool.not_not, false_eq_decide, true_eq_decide, hread0, hreadk, read_cons0, read_consk, astore_h0, astore_hk, hget0, hgetk, hset0, hsetk, hlen, hcat, Nat.add_assoc, Nat.add_zero, Nat.zero_add, List.length_append, and_true, true_and, AV.flat, gx2, get_app gx2, read_get gx2, read_app gx2, gt2, get_app gt2, read_get gt2, read_app gt2, astore_get gt2, astore_app gt2, get_set gt2, get_set_app gt2, read_set gt2, read_set_app gt2, astore_set gt2, astore_set_app gt2, List.set_set, hget0s, hgetks, hread0s, hreadks, List.length_set, hvo, one_solid hvo, one_cells hvo, *, -hK, -hXm, -hXp, -hwl, -ov2, -hinv, -hvl, -ov3, -gt3, -hl3, -back, -hPl] | with_reducible refine IfB_dec (fun h => ?_) (fun h => ?_) | with_reducible refine Guard_dec (fun h => ?_) (fun h => ?_) | with_reducible refine Guard_ndec (fun h => ?_) (fun h => ?_) | with_reducible refine Guard_not (fun h => ?_) (fun h => ?_) | with_reducible refine IfB_ndec (fun h => ?_) (fun h => ?_) | with_reducible refine IfB_not (fun h => ?_) (fun h => ?_) | with_reducible refine Guard_split (fun h => ?_) (fun h => ?_) | with_reducible refine IfB_split (fun h => ?_) (fun h => ?_))
    generalize (List.set G2 H.length ⟨[tkE.lst X], 0, .full⟩ : Heap) = G3 at *
    clear gx2 gt2 ov2
    have hpl := hPV.len
    have hpo := hPV.one
    have o1 := s1
    have o5 := s5
    have o6 := s6
    have hA0 := hA
    generalize hw : hv2 = hw' at *
    generalize hvv : r = v' at *
    have hvo2 := ov3.one
    refine WX_loopS [1, 5, 6, 8, 9, 12] (fun k fr' J4 => ∃ (q : Nat) (w : AV), k = hw'.length - q ∧ q ≤ hw'.length ∧ fr'.get 15 = .int .i64 q ∧ fr'.get 14 = w ∧ OwnE puE G3.length J4 w (leftL (hw'.take q) P) ∧ Keep none G3 J4 ∧ A fr') hw'.length ⟨0, .nils, rfl, by omega, by simp only [go_sem, Nat.reduceLT, Nat.reduceEqDiff, Nat.reduceAdd, Nat.reduceMul, Nat.reduceSub, Nat.reduceLeDiff, Int.reduceToNat, Int.reduceNeg, Int.reduceLT, Int.reduceLE, Int.reduceEq, reduceCtorEq]; rfl, by simp only [go_sem, Nat.reduceLT, Nat.reduceEqDiff, Nat.reduceAdd, Nat.reduceMul, Nat.reduceSub, Nat.reduceLeDiff, Int.reduceToNat, Int.reduceNeg, Int.reduceLT, Int.reduceLE, Int.reduceEq, reduceCtorEq], OwnE.nils _ _ _, Keep.refl _ _, by (repeat (first | exact hs | refine hA _ _ _ (by decide) ?_))⟩ ?_
    clear hg hs hA s1 s5 s6
    rintro k fr' J4 A2 R2 hA hs hg hR2 ⟨q, w, rfl, hq, f15, f14, ow, k4, hAf⟩
    have s1 := hg 1 (by decide)
    have s5 := hg 5 (by decide)
    have s6 := hg 6 (by decide)
    have s8 := hg 8 (by decide)
    have s9 := hg 9 (by decide)
    have s12 := hg 12 (by decide)
    simp only [Fr.get_put, Fr.get_init, List.getD_cons_zero, List.getD_cons_succ, Nat.reduceEqDiff, if_true, if_false] at s1 s5 s6 s8 s9 s12
    rw [o1] at s1
    rw [o5] at s5
    rw [o6] at s6
    clear o1 o5 o6
    refine wx_sound hT _ ?_
    have hwo := ow.one
    have ov4 := ov3.keep0 k4
    have e0 := ov4.alen (by decide) tk31
    by_cases hlq : q < hw'.length
    · have i6 : (q : Int) < hw'.length := by omega
      have e7 := inc_id hlq (by omega)
      obtain ⟨pb, po, e1, e2, -⟩ := ov4.at_ (by decide) se31 hlq (k := .i64) rfl
      rw [show puE.sz = 3 from rfl, puE_cells] at e2
      have hls := leftL_step (P := P) hlq
      have hll : (leftL (hw'.take q) P).length ≤ q := by
        have := List.length_filter_le (fun p => !decide (p ∈ P)) (hw'.take q)
        rw [List.length_take] at this; unfold leftL; omega
      have hJ4 : G3.length ≤ J4.length := k4.len
      have back2 : ∀ fr2 J5 w2, A2 fr2 → fr2.get 15 = .int .i64 ((q + 1 : Nat) : Int) → fr2.get 14 = w2 → OwnE puE G3.length J5 w2 (leftL (hw'.take (q + 1)) P) → Keep none G3 J5 → A fr2 → R2 fr2 J5 := fun fr2 J5 w2 ha j1 j2 j3 j4 j5 => hR2 fr2 J5 ha (hw'.length - (q + 1)) (by omega) ⟨q + 1, w2, rfl, by omega, j1, j2, j3, j4, j5⟩
      rw [hls] at back2
      clear hR2 hls back
      generalize hw'[q] = x at *
      repeat' (first | simp only [go_sem, Nat.reduceLT, Nat.reduceEqDiff, Nat.reduceAdd, Nat.reduceMul, Nat.reduceSub, Nat.reduceLeDiff, Int.reduceToNat, Int.reduceNeg, Int.reduceLT, Int.reduceLE, Int.reduceEq, reduceCtorEq, Int.natCast_zero, Int.natCast_one, Int.cast_ofNat_Int, Bool.not_not, false_eq_decide, true_eq_decide, hread0, hreadk, read_cons0, read_consk, astore_h0, astore_hk, hget0, hgetk, hset0, hsetk, hlen, hcat, Nat.add_assoc, Nat.add_zero, Nat.zero_add, List.length_append, and_true, true_and, AV.flat, hvo2, one_solid hvo2, one_cells hvo2, hwo, one_solid hwo, one_cells hwo, hpo, one_solid hpo, one_cells hpo, *, -hK, -hXm, -hXp, -hwl, -hinv, -hvl, -ov3, -ov4, -ow, -k4, -hl3, -back2, -hll, -hJ4, -e1, -e2] | with_reducible refine IfB_dec (fun h => ?_) (fun h => ?_) | with_reducible refine Guard_dec (fun h => ?_) (fun h => ?_) | with_reducible refine Guard_ndec (fun h => ?_) (fun h => ?_) | with_reducible refine Guard_not (fun h => ?_) (fun h => ?_) | with_reducible refine IfB_ndec (fun h => ?_) (fun h => ?_) | with_reducible refine IfB_not (fun h => ?_) (fun h => ?_) | with_reducible refine Guard_split (fun h => ?_) (fun h => ?_) | with_reducible refine IfB_split (fun h => ?_) (fun h => ?_))
      have o1 := s1
      have o5 := s5
      have o6 := s6
      have o8 := s8
      have o9 := s9
      have o12 := s12
      have hB0 := hA
      refine WX_loopS [1, 5, 6, 8, 9, 12, 14, 15] (fun k fr' J5 => ∃ (z : Nat), k = P.length - z ∧ z ≤ P.length ∧ fr'.get 17 = .int .i64 z ∧ fr'.get 16 = .bool (decide (x ∈ P.take z)) ∧ J5 = J4 ∧ A fr' ∧ A2 fr') P.length ⟨0, rfl, by omega, by simp only [go_sem, Nat.reduceLT, Nat.reduceEqDiff, Nat.reduceAdd, Nat.reduceMul, Nat.reduceSub, Nat.reduceLeDiff, Int.reduceToNat, Int.reduceNeg, Int.reduceLT, Int.reduceLE, Int.reduceEq, reduceCtorEq]; rfl, by simp only [go_sem, Nat.reduceLT, Nat.reduceEqDiff, Nat.reduceAdd, Nat.reduceMul, Nat.reduceSub, Nat.reduceLeDiff, Int.reduceToNat, Int.reduceNeg, Int.reduceLT, Int.reduceLE, Int.reduceEq, reduceCtorEq]; simp, rfl, by repeat (first | exact hAf | refine hA0 _ _ _ (by decide) ?_), by (repeat (first | exact hs | refine hA _ _ _ (by decide) ?_))⟩ ?_
      clear hg hs hA s1 s5 s6 s8 s9 s12
      rintro k fr' J5 A3 R3 hA hs hg hR3 ⟨z, rfl, hz, f17, f16, rfl, hAf3, hBf3⟩
      have s1 := hg 1 (by decide)
      have s5 := hg 5 (by decide)
      have s6 := hg 6 (by decide)
      have s8 := hg 8 (by decide)
      have s9 := hg 9 (by decide)
      have s12 := hg 12 (by decide)
      have s14 := hg 14 (by decide)
      have s15 := hg 15 (by decide)
      simp only [Fr.get_put, Fr.get_init, List.getD_cons_zero, List.getD_cons_succ, Nat.reduceEqDiff, if_true, if_false] at s1 s5 s6 s8 s9 s12 s14 s15
      rw [o1] at s1
      rw [o5] at s5
      rw [o6] at s6
      rw [o8] at s8
      rw [o9] at s9
      rw [o12] at s12
      rw [f14] at s14
      rw [f15] at s15
      clear o1 o5 o6 o8 o9 o12 f14 f15
      refine wx_sound hT _ ?_
      by_cases hlz : z < P.length
      · have i8 : (z : Int) < P.length := by omega
        have e8 := hPV.at_ hlz
        rw [puE_cells] at e8
        have e9 := inc_id hlz (by omega)
        have hms := memP_step hlz x
        have back3 : ∀ fr2 J6, A3 fr2 → fr2.get 17 = .int .i64 ((z + 1 : Nat) : Int) → fr2.get 16 = .bool (decide (x ∈ P.take z) || decide (P[z] = x)) → J6 = J5 → A fr2 → A2 fr2 → R3 fr2 J6 := fun fr2 J6 ha j1 j2 j3 j4 j5 => hR3 fr2 J6 ha (P.length - (z + 1)) (by omega) ⟨z + 1, rfl, by omega, j1, by rw [hms]; exact j2, j3, j4, j5⟩
        clear hR3 hms back2
        generalize P[z] = y at *
        generalize decide (x ∈ P.take z) = td at *
        obtain ⟨xc, xt, xk⟩ := x
        obtain ⟨yc, yt, yk⟩ := y
        simp only at e2 e8
        cases td with
        | true =>
          rw [Bool.true_or] at back3
          repeat' (first | simp only [go_sem, Nat.reduceLT, Nat.reduceEqDiff, Nat.reduceAdd, Nat.reduceMul, Nat.reduceSub, Nat.reduceLeDiff, Int.reduceToNat, Int.reduceNeg, Int.reduceLT, Int.reduceLE, Int.reduceEq, reduceCtorEq, Int.natCast_zero, Int.natCast_one, Int.cast_ofNat_Int, Bool.not_not, false_eq_decide, true_eq_decide, hread0, hreadk, read_cons0, read_consk, astore_h0, astore_hk, hget0, hgetk, hset0, hsetk, hlen, hcat, Nat.add_assoc, Nat.add_zero, Nat.zero_add, List.length_append, and_true, true_and, AV.flat, hvo2, one_solid hvo2, one_cells hvo2, hwo, one_solid hwo, one_cells hwo, hpo, one_solid hpo, one_cells hpo, *, -hK, -hXm, -hXp, -hwl, -hinv, -hvl, -ov3, -ov4, -ow, -k4, -hl3, -back3, -hll, -hJ4] | with_reducible refine IfB_dec (fun h => ?_) (fun h => ?_) | with_reducible refine Guard_dec (fun h => ?_) (fun h => ?_) | with_reducible refine Guard_ndec (fun h => ?_) (fun h => ?_) | with_reducible refine Guard_not (fun h => ?_) (fun h => ?_) | with_reducible refine IfB_ndec (fun h => ?_) (fun h => ?_) | with_reducible refine IfB_not (fun h => ?_) (fun h => ?_) | with_reducible refine Guard_split (fun h => ?_) (fun h => ?_) | with_reducible refine IfB_split (fun h => ?_) (fun h => ?_))
          refine WX_rows hT hmix [(0, none), (1, none), (2, none), (3, none), (4, none), (5, none), (6, none), (7, none), (8, none), (9, none), (10, none), (11, none), (12, none)] (by kernel_rfl) ?_
          repeat' (first | simp only [go_sem, Nat.reduceLT, Nat.reduceEqDiff, Nat.reduceAdd, Nat.reduceMul, Nat.reduceSub, Nat.reduceLeDiff, Int.reduceToNat, Int.reduceNeg, Int.reduceLT, Int.reduceLE, Int.reduceEq, reduceCtorEq, Int.natCast_zero, Int.natCast_one, Int.cast_ofNat_Int, Bool.not_not, false_eq_decide, true_eq_decide, hread0, hreadk, read_cons0, read_consk, astore_h0, astore_hk, hget0, hgetk, hset0, hsetk, hlen, hcat, Nat.add_assoc, Nat.add_zero, Nat.zero_add, List.length_append, and_true, true_and, AV.flat, hvo2, one_solid hvo2, one_cells hvo2, hwo, one_solid hwo, one_cells hwo, hpo, one_solid hpo, one_cells hpo, *, -hK, -hXm, -hXp, -hwl, -hinv, -hvl, -ov3, -ov4, -ow, -k4, -hl3, -back3, -hll, -hJ4] | with_reducible refine IfB_dec (fun h => ?_) (fun h => ?_) | with_reducible refine Guard_dec (fun h => ?_) (fun h => ?_) | with_reducible refine Guard_ndec (fun h => ?_) (fun h => ?_) | with_reducible refine Guard_not (fun h => ?_) (fun h => ?_) | with_reducible refine IfB_ndec (fun h => ?_) (fun h => ?_) | with_reducible refine IfB_not (fun h => ?_) (fun h => ?_) | with_reducible refine Guard_split (fun h => ?_) (fun h => ?_) | with_reducible refine IfB_split (fun h => ?_) (fun h => ?_))
          exact back3 _ _ (by (repeat (first | exact hs | refine hA _ _ _ (by decide) ?_))) (by simp only [go_sem, Nat.reduceLT, Nat.reduceEqDiff, Nat.reduceAdd, Nat.reduceMul, Nat.reduceSub, Nat.reduceLeDiff, Int.reduceToNat, Int.reduceNeg, Int.reduceLT, Int.reduceLE, Int.reduceEq, reduceCtorEq]) (by simp only [go_sem, Nat.reduceLT, Nat.reduceEqDiff, Nat.reduceAdd, Nat.reduceMul, Nat.reduceSub, Nat.reduceLeDiff, Int.reduceToNat, Int.reduceNeg, Int.reduceLT, Int.reduceLE, Int.reduceEq, reduceCtorEq]) rfl (by repeat (first | exact hAf3 | refine hA0 _ _ _ (by decide) ?_)) (by repeat (first | exact hBf3 | refine hB0 _ _ _ (by decide) ?_))
        | false =>
          rw [Bool.false_or] at back3
          by_cases h1 : yc = xc
          · by_cases h2 : yt = xt
            · by_cases h3 : yk = xk
              · subst h1 h2 h3
                rw [decide_eq_true rfl] at back3
                repeat' (first | simp only [go_sem, Nat.reduceLT, Nat.reduceEqDiff, Nat.reduceAdd, Nat.reduceMul, Nat.reduceSub, Nat.reduceLeDiff, Int.reduceToNat, Int.reduceNeg, Int.reduceLT, Int.reduceLE, Int.reduceEq, reduceCtorEq, Int.natCast_zero, Int.natCast_one, Int.cast_ofNat_Int, Bool.not_not, false_eq_decide, true_eq_decide, hread0, hreadk, read_cons0, read_consk, astore_h0, astore_hk, hget0, hgetk, hset0, hsetk, hlen, hcat, Nat.add_assoc, Nat.add_zero, Nat.zero_add, List.length_append, and_true, true_and, AV.flat, hvo2, one_solid hvo2, one_cells hvo2, hwo, one_solid hwo, one_cells hwo, hpo, one_solid hpo, one_cells hpo, *, -hK, -hXm, -hXp, -hwl, -hinv, -hvl, -ov3, -ov4, -ow, -k4, -hl3, -back3, -hll, -hJ4] | with_reducible refine IfB_dec (fun h => ?_) (fun h => ?_) | with_reducible refine Guard_dec (fun h => ?_) (fun h => ?_) | with_reducible refine Guard_ndec (fun h => ?_) (fun h => ?_) | with_reducible refine Guard_not (fun h => ?_) (fun h => ?_) | with_reducible refine IfB_ndec (fun h => ?_) (fun h => ?_) | with_reducible refine IfB_not (fun h => ?_) (fun h => ?_) | with_reducible refine Guard_split (fun h => ?_) (fun h => ?_) | with_reducible refine IfB_split (fun h => ?_) (fun h => ?_))
                refine WX_rows hT hmix [(0, none), (1, none), (2, none), (3, none), (4, none), (5, none), (6, none), (7, none), (8, none), (9, none), (10, none), (11, none), (12, none)] (by kernel_rfl) ?_
                repeat' (first | simp only [go_sem, Nat.reduceLT, Nat.reduceEqDiff, Nat.reduceAdd, Nat.reduceMul, Nat.reduceSub, Nat.reduceLeDiff, Int.reduceToNat, Int.reduceNeg, Int.reduceLT, Int.reduceLE, Int.reduceEq, reduceCtorEq, Int.natCast_zero, Int.natCast_one, Int.cast_ofNat_Int, Bool.not_not, false_eq_decide, true_eq_decide, hread0, hreadk, read_cons0, read_consk, astore_h0, astore_hk, hget0, hgetk, hset0, hsetk, hlen, hcat, Nat.add_assoc, Nat.add_zero, Nat.zero_add, List.length_append, and_true, true_and, AV.flat, hvo2, one_solid hvo2, one_cells hvo2, hwo, one_solid hwo, one_cells hwo, hpo, one_solid hpo, one_cells hpo, *, -hK, -hXm, -hXp, -hwl, -hinv, -hvl, -ov3, -ov4, -ow, -k4, -hl3, -back3, -hll, -hJ4] | with_reducible refine IfB_dec (fun h => ?_) (fun h => ?_) | with_reducible refine Guard_dec (fun h => ?_) (fun h => ?_) | with_reducible refine Guard_ndec (fun h => ?_) (fun h => ?_) | with_reducible refine Guard_not (fun h => ?_) (fun h => ?_) | with_reducible refine IfB_ndec (fun h => ?_) (fun h => ?_) | with_reducible refine IfB_not (fun h => ?_) (fun h => ?_) | with_reducible refine Guard_split (fun h => ?_) (fun h => ?_) | with_reducible refine IfB_split (fun h => ?_) (fun h => ?_))
                exact back3 _ _ (by (repeat (first | exact hs | refine hA _ _ _ (by decide) ?_))) (by simp only [go_sem, Nat.reduceLT, Nat.reduceEqDiff, Nat.reduceAdd, Nat.reduceMul, Nat.reduceSub, Nat.reduceLeDiff, Int.reduceToNat, Int.reduceNeg, Int.reduceLT, Int.reduceLE, Int.reduceEq, reduceCtorEq]) (by simp only [go_sem, Nat.reduceLT, Nat.reduceEqDiff, Nat.reduceAdd, Nat.reduceMul, Nat.reduceSub, Nat.reduceLeDiff, Int.reduceToNat, Int.reduceNeg, Int.reduceLT, Int.reduceLE, Int.reduceEq, reduceCtorEq]) rfl (by repeat (first | exact hAf3 | refine hA0 _ _ _ (by decide) ?_)) (by repeat (first | exact hBf3 | refine hB0 _ _ _ (by decide) ?_))
              · rw [show decide ((⟨yc, yt, yk⟩ : Pu) = ⟨xc, xt, xk⟩) = false by simp [h3]] at back3
                subst h1 h2
                repeat' (first | simp only [go_sem, Nat.reduceLT, Nat.reduceEqDiff, Nat.reduceAdd, Nat.reduceMul, Nat.reduceSub, Nat.reduceLeDiff, Int.reduceToNat, Int.reduceNeg, Int.reduceLT, Int.reduceLE, Int.reduceEq, reduceCtorEq, Int.natCast_zero, Int.natCast_one, Int.cast_ofNat_Int, Bool.not_not, false_eq_decide, true_eq_decide, hread0, hreadk, read_cons0, read_consk, astore_h0, astore_hk, hget0, hgetk, hset0, hsetk, hlen, hcat, Nat.add_assoc, Nat.add_zero, Nat.zero_add, List.length_append, and_true, true_and, AV.flat, hvo2, one_solid hvo2, one_cells hvo2, hwo, one_solid hwo, one_cells hwo, hpo, one_solid hpo, one_cells hpo, *, -hK, -hXm, -hXp, -hwl, -hinv, -hvl, -ov3, -ov4, -ow, -k4, -hl3, -back3, -hll, -hJ4] | with_reducible refine IfB_dec (fun h => ?_) (fun h => ?_) | with_reducible refine Guard_dec (fun h => ?_) (fun h => ?_) | with_reducible refine Guard_ndec (fun h => ?_) (fun h => ?_) | with_reducible refine Guard_not (fun h => ?_) (fun h => ?_) | with_reducible refine IfB_ndec (fun h => ?_) (fun h => ?_) | with_reducible refine IfB_not (fun h => ?_) (fun h => ?_) | with_reducible refine Guard_split (fun h => ?_) (fun h => ?_) | with_reducible refine IfB_split (fun h => ?_) (fun h => ?_))
                refine WX_rows hT hmix [(0, none), (1, none), (2, none), (3, none), (4, none), (5, none), (6, none), (7, none), (8, none), (9, none), (10, none), (11, none), (12, none)] (by kernel_rfl) ?_
                repeat' (first | simp only [go_sem, Nat.reduceLT, Nat.reduceEqDiff, Nat.reduceAdd, Nat.reduceMul, Nat.reduceSub, Nat.reduceLeDiff, Int.reduceToNat, Int.reduceNeg, Int.reduceLT, Int.reduceLE, Int.reduceEq, reduceCtorEq, Int.natCast_zero, Int.natCast_one, Int.cast_ofNat_Int, Bool.not_not, false_eq_decide, true_eq_decide, hread0, hreadk, read_cons0, read_consk, astore_h0, astore_hk, hget0, hgetk, hset0, hsetk, hlen, hcat, Nat.add_assoc, Nat.add_zero, Nat.zero_add, List.length_append, and_true, true_and, AV.flat, hvo2, one_solid hvo2, one_cells hvo2, hwo, one_solid hwo, one_cells hwo, hpo, one_solid hpo, one_cells hpo, *, -hK, -hXm, -hXp, -hwl, -hinv, -hvl, -ov3, -ov4, -ow, -k4, -hl3, -back3, -hll, -hJ4] | with_reducible refine IfB_dec (fun h => ?_) (fun h => ?_) | with_reducible refine Guard_dec (fun h => ?_) (fun h => ?_) | with_reducible refine Guard_ndec (fun h => ?_) (fun h => ?_) | with_reducible refine Guard_not (fun h => ?_) (fun h => ?_) | with_reducible refine IfB_ndec (fun h => ?_) (fun h => ?_) | with_reducible refine IfB_not (fun h => ?_) (fun h => ?_) | with_reducible refine Guard_split (fun h => ?_) (fun h => ?_) | with_reducible refine IfB_split (fun h => ?_) (fun h => ?_))
                exact back3 _ _ (by (repeat (first | exact hs | refine hA _ _ _ (by decide) ?_))) (by simp only [go_sem, Nat.reduceLT, Nat.reduceEqDiff, Nat.reduceAdd, Nat.reduceMul, Nat.reduceSub, Nat.reduceLeDiff, Int.reduceToNat, Int.reduceNeg, Int.reduceLT, Int.reduceLE, Int.reduceEq, reduceCtorEq]) (by simp only [go_sem, Nat.reduceLT, Nat.reduceEqDiff, Nat.reduceAdd, Nat.reduceMul, Nat.reduceSub, Nat.reduceLeDiff, Int.reduceToNat, Int.reduceNeg, Int.reduceLT, Int.reduceLE, Int.reduceEq, reduceCtorEq]) rfl (by repeat (first | exact hAf3 | refine hA0 _ _ _ (by decide) ?_)) (by repeat (first | exact hBf3 | refine hB0 _ _ _ (by decide) ?_))
            · rw [show decide ((⟨yc, yt, yk⟩ : Pu) = ⟨xc, xt, xk⟩) = false by simp [h2]] at back3
              subst h1
              repeat' (first | simp only [go_sem, Nat.reduceLT, Nat.reduceEqDiff, Nat.reduceAdd, Nat.reduceMul, Nat.reduceSub, Nat.reduceLeDiff, Int.reduceToNat, Int.reduceNeg, Int.reduceLT, Int.reduceLE, Int.reduceEq, reduceCtorEq, Int.natCast_zero, Int.natCast_one, Int.cast_ofNat_Int, Bool.not_not, false_eq_decide, true_eq_decide, hread0, hreadk, read_cons0, read_consk, astore_h0, astore_hk, hget0, hgetk, hset0, hsetk, hlen, hcat, Nat.add_assoc, Nat.add_zero, Nat.zero_add, List.length_append, and_true, true_and, AV.flat, hvo2, one_solid hvo2, one_cells hvo2, hwo, one_solid hwo, one_cells hwo, hpo, one_solid hpo, one_cells hpo, *, -hK, -hXm, -hXp, -hwl, -hinv, -hvl, -ov3, -ov4, -ow, -k4, -hl3, -back3, -hll, -hJ4] | with_reducible refine IfB_dec (fun h => ?_) (fun h => ?_) | with_reducible refine Guard_dec (fun h => ?_) (fun h => ?_) | with_reducible refine Guard_ndec (fun h => ?_) (fun h => ?_) | with_reducible refine Guard_not (fun h => ?_) (fun h => ?_) | with_reducible refine IfB_ndec (fun h => ?_) (fun h => ?_) | with_reducible refine IfB_not (fun h => ?_) (fun h => ?_) | with_reducible refine Guard_split (fun h => ?_) (fun h => ?_) | with_reducible refine IfB_split (fun h => ?_) (fun h => ?_))
              refine WX_rows hT hmix [(0, none), (1, none), (2, none), (3, none), (4, none), (5, none), (6, none), (7, none), (8, none), (9, none), (10, none), (11, none), (12, none)] (by kernel_rfl) ?_
              repeat' (first | simp only [go_sem, Nat.reduceLT, Nat.reduceEqDiff, Nat.reduceAdd, Nat.reduceMul, Nat.reduceSub, Nat.reduceLeDiff, Int.reduceToNat, Int.reduceNeg, Int.reduceLT, Int.reduceLE, Int.reduceEq, reduceCtorEq, Int.natCast_zero, Int.natCast_one, Int.cast_ofNat_Int, Bool.not_not, false_eq_decide, true_eq_decide, hread0, hreadk, read_cons0, read_consk, astore_h0, astore_hk, hget0, hgetk, hset0, hsetk, hlen, hcat, Nat.add_assoc, Nat.add_zero, Nat.zero_add, List.length_append, and_true, true_and, AV.flat, hvo2, one_solid hvo2, one_cells hvo2, hwo, one_solid hwo, one_cells hwo, hpo, one_solid hpo, one_cells hpo, *, -hK, -hXm, -hXp, -hwl, -hinv, -hvl, -ov3, -ov4, -ow, -k4, -hl3, -back3, -hll, -hJ4] | with_reducible refine IfB_dec (fun h => ?_) (fun h => ?_) | with_reducible refine Guard_dec (fun h => ?_) (fun h => ?_) | with_reducible refine Guard_ndec (fun h => ?_) (fun h => ?_) | with_reducible refine Guard_not (fun h => ?_) (fun h => ?_) | with_reducible refine IfB_ndec (fun h => ?_) (fun h => ?_) | with_reducible refine IfB_not (fun h => ?_) (fun h => ?_) | with_reducible refine Guard_split (fun h => ?_) (fun h => ?_) | with_reducible refine IfB_split (fun h => ?_) (fun h => ?_))
              exact back3 _ _ (by (repeat (first | exact hs | refine hA _ _ _ (by decide) ?_))) (by simp only [go_sem, Nat.reduceLT, Nat.reduceEqDiff, Nat.reduceAdd, Nat.reduceMul, Nat.reduceSub, Nat.reduceLeDiff, Int.reduceToNat, Int.reduceNeg, Int.reduceLT, Int.reduceLE, Int.reduceEq, reduceCtorEq]) (by simp only [go_sem, Nat.reduceLT, Nat.reduceEqDiff, Nat.reduceAdd, Nat.reduceMul, Nat.reduceSub, Nat.reduceLeDiff, Int.reduceToNat, Int.reduceNeg, Int.reduceLT, Int.reduceLE, Int.reduceEq, reduceCtorEq]) rfl (by repeat (first | exact hAf3 | refine hA0 _ _ _ (by decide) ?_)) (by repeat (first | exact hBf3 | refine hB0 _ _ _ (by decide) ?_))
          · rw [show decide ((⟨yc, yt, yk⟩ : Pu) = ⟨xc, xt, xk⟩) = false by simp [h1]] at back3
            repeat' (first | simp only [go_sem, Nat.reduceLT, Nat.reduceEqDiff, Nat.reduceAdd, Nat.reduceMul, Nat.reduceSub, Nat.reduceLeDiff, Int.reduceToNat, Int.reduceNeg, Int.reduceLT, Int.reduceLE, Int.reduceEq, reduceCtorEq, Int.natCast_zero, Int.natCast_one, Int.cast_ofNat_Int, Bool.not_not, false_eq_decide, true_eq_decide, hread0, hreadk, read_cons0, read_consk, astore_h0, astore_hk, hget0, hgetk, hset0, hsetk, hlen, hcat, Nat.add_assoc, Nat.add_zero, Nat.zero_add, List.length_append, and_true, true_and, AV.flat, hvo2, one_solid hvo2, one_cells hvo2, hwo, one_solid hwo, one_cells hwo, hpo, one_solid hpo, one_cells hpo, *, -hK, -hXm, -hXp, -hwl, -hinv, -hvl, -ov3, -ov4, -ow, -k4, -hl3, -back3, -hll, -hJ4] | with_reducible refine IfB_dec (fun h => ?_) (fun h => ?_) | with_reducible refine Guard_dec (fun h => ?_) (fun h => ?_) | with_reducible refine Guard_ndec (fun h => ?_) (fun h => ?_) | with_reducible refine Guard_not (fun h => ?_) (fun h => ?_) | with_reducible refine IfB_ndec (fun h => ?_) (fun h => ?_) | with_reducible refine IfB_not (fun h => ?_) (fun h => ?_) | with_reducible refine Guard_split (fun h => ?_) (fun h => ?_) | with_reducible refine IfB_split (fun h => ?_) (fun h => ?_))
            refine WX_rows hT hmix [(0, none), (1, none), (2, none), (3, none), (4, none), (5, none), (6, none), (7, none), (8, none), (9, none), (10, none), (11, none), (12, none)] (by kernel_rfl) ?_
            repeat' (first | simp only [go_sem, Nat.reduceLT, Nat.reduceEqDiff, Nat.reduceAdd, Nat.reduceMul, Nat.reduceSub, Nat.reduceLeDiff, Int.reduceToNat, Int.reduceNeg, Int.reduceLT, Int.reduceLE, Int.reduceEq, reduceCtorEq, Int.natCast_zero, Int.natCast_one, Int.cast_ofNat_Int, Bool.not_not, false_eq_decide, true_eq_decide, hread0, hreadk, read_cons0, read_consk, astore_h0, astore_hk, hget0, hgetk, hset0, hsetk, hlen, hcat, Nat.add_assoc, Nat.add_zero, Nat.zero_add, List.length_append, and_true, true_and, AV.flat, hvo2, one_solid hvo2, one_cells hvo2, hwo, one_solid hwo, one_cells hwo, hpo, one_solid hpo, one_cells hpo, *, -hK, -hXm, -hXp, -hwl, -hinv, -hvl, -ov3, -ov4, -ow, -k4, -hl3, -back3, -hll, -hJ4] | with_reducible refine IfB_dec (fun h => ?_) (fun h => ?_) | with_reducible refine Guard_dec (fun h => ?_) (fun h => ?_) | with_reducible refine Guard_ndec (fun h => ?_) (fun h => ?_) | with_reducible refine Guard_not (fun h => ?_) (fun h => ?_) | with_reducible refine IfB_ndec (fun h => ?_) (fun h => ?_) | with_reducible refine IfB_not (fun h => ?_) (fun h => ?_) | with_reducible refine Guard_split (fun h => ?_) (fun h => ?_) | with_reducible refine IfB_split (fun h => ?_) (fun h => ?_))
            exact back3 _ _ (by (repeat (first | exact hs | refine hA _ _ _ (by decide) ?_))) (by simp only [go_sem, Nat.reduceLT, Nat.reduceEqDiff, Nat.reduceAdd, Nat.reduceMul, Nat.reduceSub, Nat.reduceLeDiff, Int.reduceToNat, Int.reduceNeg, Int.reduceLT, Int.reduceLE, Int.reduceEq, reduceCtorEq]) (by simp only [go_sem, Nat.reduceLT, Nat.reduceEqDiff, Nat.reduceAdd, Nat.reduceMul, Nat.reduceSub, Nat.reduceLeDiff, Int.reduceToNat, Int.reduceNeg, Int.reduceLT, Int.reduceLE, Int.reduceEq, reduceCtorEq]) rfl (by repeat (first | exact hAf3 | refine hA0 _ _ _ (by decide) ?_)) (by repeat (first | exact hBf3 | refine hB0 _ _ _ (by decide) ?_))
      have i8 : ¬ (z : Int) < P.length := by omega
      have hze : z = P.length := by omega
      rw [hze, List.take_length] at f16
      by_cases hxP : x ∈ P
      · rw [decide_eq_true hxP] at f16
        rw [if_pos hxP, List.append_nil] at back2
        repeat' (first | simp only [go_sem, Nat.reduceLT, Nat.reduceEqDiff, Nat.reduceAdd, Nat.reduceMul, Nat.reduceSub, Nat.reduceLeDiff, Int.reduceToNat, Int.reduceNeg, Int.reduceLT, Int.reduceLE, Int.reduceEq, reduceCtorEq, Int.natCast_zero, Int.natCast_one, Int.cast_ofNat_Int, Bool.not_not, false_eq_decide, true_eq_decide, hread0, hreadk, read_cons0, read_consk, astore_h0, astore_hk, hget0, hgetk, hset0, hsetk, hlen, hcat, Nat.add_assoc, Nat.add_zero, Nat.zero_add, List.length_append, and_true, true_and, AV.flat, hvo2, one_solid hvo2, one_cells hvo2, hwo, one_solid hwo, one_cells hwo, hpo, one_solid hpo, one_cells hpo, *, -hK, -hXm, -hXp, -hwl, -hinv, -hvl, -ov3, -ov4, -ow, -k4, -hl3, -back2, -hll, -hJ4, -hze, -hxP, -e2] | with_reducible refine IfB_dec (fun h => ?_) (fun h => ?_) | with_reducible refine Guard_dec (fun h => ?_) (fun h => ?_) | with_reducible refine Guard_ndec (fun h => ?_) (fun h => ?_) | with_reducible refine Guard_not (fun h => ?_) (fun h => ?_) | with_reducible refine IfB_ndec (fun h => ?_) (fun h => ?_) | with_reducible refine IfB_not (fun h => ?_) (fun h => ?_) | with_reducible refine Guard_split (fun h => ?_) (fun h => ?_) | with_reducible refine IfB_split (fun h => ?_) (fun h => ?_))
        exact back2 _ _ _ (by repeat (first | exact hBf3 | refine hB0 _ _ _ (by decide) ?_)) (by simp only [go_sem, Nat.reduceLT, Nat.reduceEqDiff, Nat.reduceAdd, Nat.reduceMul, Nat.reduceSub, Nat.reduceLeDiff, Int.reduceToNat, Int.reduceNeg, Int.reduceLT, Int.reduceLE, Int.reduceEq, reduceCtorEq]) (by simp only [go_sem, Nat.reduceLT, Nat.reduceEqDiff, Nat.reduceAdd, Nat.reduceMul, Nat.reduceSub, Nat.reduceLeDiff, Int.reduceToNat, Int.reduceNeg, Int.reduceLT, Int.reduceLE, Int.reduceEq, reduceCtorEq]; exact s14) ow k4 (by repeat (first | exact hAf3 | refine hA0 _ _ _ (by decide) ?_))
      · rw [decide_eq_false hxP] at f16
        rw [if_neg hxP] at back2
        repeat' (first | simp only [go_sem, Nat.reduceLT, Nat.reduceEqDiff, Nat.reduceAdd, Nat.reduceMul, Nat.reduceSub, Nat.reduceLeDiff, Int.reduceToNat, Int.reduceNeg, Int.reduceLT, Int.reduceLE, Int.reduceEq, reduceCtorEq, Int.natCast_zero, Int.natCast_one, Int.cast_ofNat_Int, Bool.not_not, false_eq_decide, true_eq_decide, hread0, hreadk, read_cons0, read_consk, astore_h0, astore_hk, hget0, hgetk, hset0, hsetk, hlen, hcat, Nat.add_assoc, Nat.add_zero, Nat.zero_add, List.length_append, and_true, true_and, AV.flat, hvo2, one_solid hvo2, one_cells hvo2, hwo, one_solid hwo, one_cells hwo, hpo, one_solid hpo, one_cells hpo, *, -hK, -hXm, -hXp, -hwl, -hinv, -hvl, -ov3, -ov4, -ow, -k4, -hl3, -back2, -hll, -hJ4, -hze, -hxP] | with_reducible refine IfB_dec (fun h => ?_) (fun h => ?_) | with_reducible refine Guard_dec (fun h => ?_) (fun h => ?_) | with_reducible refine Guard_ndec (fun h => ?_) (fun h => ?_) | with_reducible refine Guard_not (fun h => ?_) (fun h => ?_) | with_reducible refine IfB_ndec (fun h => ?_) (fun h => ?_) | with_reducible refine IfB_not (fun h => ?_) (fun h => ?_) | with_reducible refine Guard_split (fun h => ?_) (fun h => ?_) | with_reducible refine IfB_split (fun h => ?_) (fun h => ?_))
        refine append1_enc (E := puE) (x := x) ow rfl se31 az47 td47 tk31 rfl rfl (by decide) (by show (_ + 1) * 99 ≤ _; omega) hJ4 ?_
        intro v5 H5 o5 k5 hn5
        have hv5 := o5.one
        repeat' (first | simp only [go_sem, Nat.reduceLT, Nat.reduceEqDiff, Nat.reduceAdd, Nat.reduceMul, Nat.reduceSub, Nat.reduceLeDiff, Int.reduceToNat, Int.reduceNeg, Int.reduceLT, Int.reduceLE, Int.reduceEq, reduceCtorEq, Int.natCast_zero, Int.natCast_one, Int.cast_ofNat_Int, Bool.not_not, false_eq_decide, true_eq_decide, hread0, hreadk, read_cons0, read_consk, astore_h0, astore_hk, hget0, hgetk, hset0, hsetk, hlen, hcat, Nat.add_assoc, Nat.add_zero, Nat.zero_add, List.length_append, and_true, true_and, AV.flat, hvo2, one_solid hvo2, one_cells hvo2, hwo, one_solid hwo, one_cells hwo, hv5, one_solid hv5, one_cells hv5, hpo, one_solid hpo, one_cells hpo, *, -hK, -hXm, -hXp, -hwl, -hinv, -hvl, -ov3, -ov4, -ow, -k4, -hl3, -back2, -hll, -hJ4, -hze, -hxP, -o5, -k5, -hn5] | with_reducible refine IfB_dec (fun h => ?_) (fun h => ?_) | with_reducible refine Guard_dec (fun h => ?_) (fun h => ?_) | with_reducible refine Guard_ndec (fun h => ?_) (fun h => ?_) | with_reducible refine Guard_not (fun h => ?_) (fun h => ?_) | with_reducible refine IfB_ndec (fun h => ?_) (fun h => ?_) | with_reducible refine IfB_not (fun h => ?_) (fun h => ?_) | with_reducible refine Guard_split (fun h => ?_) (fun h => ?_) | with_reducible refine IfB_split (fun h => ?_) (fun h => ?_))
        exact back2 _ _ _ (by repeat (first | exact hBf3 | refine hB0 _ _ _ (by decide) ?_)) (by simp only [go_sem, Nat.reduceLT, Nat.reduceEqDiff, Nat.reduceAdd, Nat.reduceMul, Nat.reduceSub, Nat.reduceLeDiff, Int.reduceToNat, Int.reduceNeg, Int.reduceLT, Int.reduceLE, Int.reduceEq, reduceCtorEq]) rfl (by simp only [go_sem, Nat.reduceLT, Nat.reduceEqDiff, Nat.reduceAdd, Nat.reduceMul, Nat.reduceSub, Nat.reduceLeDiff, Int.reduceToNat, Int.reduceNeg, Int.reduceLT, Int.reduceLE, Int.reduceEq, reduceCtorEq]; exact o5) (k4.via k5 (fun b hb => ow.ge hb)) (by repeat (first | exact hAf3 | refine hA0 _ _ _ (by decide) ?_))
    have i6 : ¬ (q : Int) < hw'.length := by omega
    have hqe : q = hw'.length := by omega
    rw [hqe, List.take_length] at ow
    have hll : (leftL hw' P).length ≤ hw'.length := List.length_filter_le _ _
    have hlp : ∀ p ∈ leftL hw' P, hasP X p := fun p hp => by
      unfold leftL at hp
      rw [List.mem_filter] at hp
      exact hXp p hp.1 (by simpa using hp.2)
    have gt4 := k4.get gt3 (by simp)
    have ow4 : OwnE puE (H.length + 1) J4 w (leftL hw' P) := ow.mono hl3
    have hJ4 : H.length + 1 ≤ J4.length := by have := k4.len; omega
    clear ow k4 gt3 ov3 ov4 hXp hR2 hinv hqe
    generalize leftL hw' P = lf at *
    repeat' (first | simp only [go_sem, Nat.reduceLT, Nat.reduceEqDiff, Nat.reduceAdd, Nat.reduceMul, Nat.reduceSub, Nat.reduceLeDiff, Int.reduceToNat, Int.reduceNeg, Int.reduceLT, Int.reduceLE, Int.reduceEq, reduceCtorEq, Int.natCast_zero, Int.natCast_one, Int.cast_ofNat_Int, Bool.not_not, false_eq_decide, true_eq_decide, hread0, hreadk, read_cons0, read_consk, astore_h0, astore_hk, hget0, hgetk, hset0, hsetk, hlen, hcat, Nat.add_assoc, Nat.add_zero, Nat.zero_add, List.length_append, and_true, true_and, AV.flat, hvo2, one_solid hvo2, one_cells hvo2, hwo, one_solid hwo, one_cells hwo, hpo, one_solid hpo, one_cells hpo, *, -hK, -hXm, -hwl, -hvl, -hl3, -back, -hll, -hlp, -gt4, -ow4, -hJ4, -hlq] | with_reducible refine IfB_dec (fun h => ?_) (fun h => ?_) | with_reducible refine Guard_dec (fun h => ?_) (fun h => ?_) | with_reducible refine Guard_ndec (fun h => ?_) (fun h => ?_) | with_reducible refine Guard_not (fun h => ?_) (fun h => ?_) | with_reducible refine IfB_ndec (fun h => ?_) (fun h => ?_) | with_reducible refine IfB_not (fun h => ?_) (fun h => ?_) | with_reducible refine Guard_split (fun h => ?_) (fun h => ?_) | with_reducible refine IfB_split (fun h => ?_) (fun h => ?_))
    have o1 := s1
    have o5 := s5
    have o6 := s6
    have o9 := s9
    clear hg hs hA s1 s5 s6 s8 s9 s12
    refine WX_loopS [1, 5, 6, 8, 9] (fun k fr' J5 => ∃ (z : Nat), k = lf.length - z ∧ z ≤ lf.length ∧ fr'.get 18 = .int .i64 z ∧ J5 = J4 ∧ A fr') lf.length ⟨0, rfl, by omega, by simp only [go_sem, Nat.reduceLT, Nat.reduceEqDiff, Nat.reduceAdd, Nat.reduceMul, Nat.reduceSub, Nat.reduceLeDiff, Int.reduceToNat, Int.reduceNeg, Int.reduceLT, Int.reduceLE, Int.reduceEq, reduceCtorEq]; rfl, rfl, by repeat (first | exact hAf | refine hA0 _ _ _ (by decide) ?_)⟩ ?_
    rintro k fr' J5 A3 R3 hA hs hg hR3 ⟨z, rfl, hz, f18, rfl, hAf3⟩
    have s1 := hg 1 (by decide)
    have s5 := hg 5 (by decide)
    have s6 := hg 6 (by decide)
    have s8 := hg 8 (by decide)
    have s9 := hg 9 (by decide)
    simp only [Fr.get_put, Fr.get_init, List.getD_cons_zero, List.getD_cons_succ, Nat.reduceEqDiff, if_true, if_false] at s1 s5 s6 s8 s9
    rw [o1] at s1
    rw [o5] at s5
    rw [o6] at s6
    rw [o9] at s9
    clear o1 o5 o6 o9
    refine wx_sound hT _ ?_
    have e0 := ow4.alen (by decide) tk31
    by_cases hlz : z < lf.length
    rotate_left
    · have i8 : ¬ (z : Int) < lf.length := by omega
      repeat' (first | simp only [go_sem, Nat.reduceLT, Nat.reduceEqDiff, Nat.reduceAdd, Nat.reduceMul, Nat.reduceSub, Nat.reduceLeDiff, Int.reduceToNat, Int.reduceNeg, Int.reduceLT, Int.reduceLE, Int.reduceEq, reduceCtorEq, Int.natCast_zero, Int.natCast_one, Int.cast_ofNat_Int, Bool.not_not, false_eq_decide, true_eq_decide, hread0, hreadk, read_cons0, read_consk, astore_h0, astore_hk, hget0, hgetk, hset0, hsetk, hlen, hcat, Nat.add_assoc, Nat.add_zero, Nat.zero_add, List.length_append, and_true, true_and, AV.flat, hwo, one_solid hwo, one_cells hwo, *, -hK, -hXm, -hwl, -hvl, -hl3, -back, -hll, -hlp, -gt4, -ow4, -hJ4, -hlz] | with_reducible refine IfB_dec (fun h => ?_) (fun h => ?_) | with_reducible refine Guard_dec (fun h => ?_) (fun h => ?_) | with_reducible refine Guard_ndec (fun h => ?_) (fun h => ?_) | with_reducible refine Guard_not (fun h => ?_) (fun h => ?_) | with_reducible refine IfB_ndec (fun h => ?_) (fun h => ?_) | with_reducible refine IfB_not (fun h => ?_) (fun h => ?_) | with_reducible refine Guard_split (fun h => ?_) (fun h => ?_) | with_reducible refine IfB_split (fun h => ?_) (fun h => ?_))
      exact back _ _ X lf w (by repeat (first | exact hAf3 | refine hA0 _ _ _ (by decide) ?_)) (by simp only [go_sem, Nat.reduceLT, Nat.reduceEqDiff, Nat.reduceAdd, Nat.reduceMul, Nat.reduceSub, Nat.reduceLeDiff, Int.reduceToNat, Int.reduceNeg, Int.reduceLT, Int.reduceLE, Int.reduceEq, reduceCtorEq]) (by simp only [go_sem, Nat.reduceLT, Nat.reduceEqDiff, Nat.reduceAdd, Nat.reduceMul, Nat.reduceSub, Nat.reduceLeDiff, Int.reduceToNat, Int.reduceNeg, Int.reduceLT, Int.reduceLE, Int.reduceEq, reduceCtorEq]; exact s8) gt4 ow4 hXm hlp (by omega) hJ4
    have i8 : (z : Int) < lf.length := by omega
    have e9 := inc_id hlz (by omega)
    obtain ⟨pb, po, e1, e2, -⟩ := ow4.at_ (by decide) se31 hlz (k := .i64) rfl
    rw [show puE.sz = 3 from rfl, puE_cells] at e2
    obtain ⟨c, hc, hcl2, hin⟩ := hlp _ (List.getElem_mem hlz)
    have hs2 := fun J => has_spec X c ⟨lf[z].ten, lf[z].key⟩ hcl2 (by have := (hXm.2.2 _ (List.getElem_mem hcl2)).1.2; omega) J
    rw [decide_eq_true hin] at hs2
    clear hin hlp
    generalize lf[z] = y at *
    obtain ⟨yc, yt, yk⟩ := y
    simp only at hc e2 hs2
    subst hc
    have e20 := read_sub e2 0 1 (by omega)
    have e21 := read_sub e2 1 2 (by omega)
    simp only [Nat.add_zero, List.drop_zero, List.take_succ_cons, List.take_zero, List.drop_succ_cons] at e20 e21
    unfold trAv Nm.av at hs2
    repeat' (first | simp only [go_sem, Nat.reduceLT, Nat.reduceEqDiff, Nat.reduceAdd, Nat.reduceMul, Nat.reduceSub, Nat.reduceLeDiff, Int.reduceToNat, Int.reduceNeg, Int.reduceLT, Int.reduceLE, Int.reduceEq, reduceCtorEq, Int.natCast_zero, Int.natCast_one, Int.cast_ofNat_Int, Bool.not_not, false_eq_decide, true_eq_decide, hread0, hreadk, read_cons0, read_consk, astore_h0, astore_hk, hget0, hgetk, hset0, hsetk, hlen, hcat, Nat.add_assoc, Nat.add_zero, Nat.zero_add, List.length_append, and_true, true_and, AV.flat, gt4, get_app gt4, read_get gt4, read_app gt4, hwo, one_solid hwo, one_cells hwo, *, -hK, -hXm, -hwl, -hvl, -hl3, -back, -hll, -gt4, -ow4, -hJ4, -hs2, -e2] | with_reducible refine IfB_dec (fun h => ?_) (fun h => ?_) | with_reducible refine Guard_dec (fun h => ?_) (fun h => ?_) | with_reducible refine Guard_ndec (fun h => ?_) (fun h => ?_) | with_reducible refine Guard_not (fun h => ?_) (fun h => ?_) | with_reducible refine IfB_ndec (fun h => ?_) (fun h => ?_) | with_reducible refine IfB_not (fun h => ?_) (fun h => ?_) | with_reducible refine Guard_split (fun h => ?_) (fun h => ?_) | with_reducible refine IfB_split (fun h => ?_) (fun h => ?_))
    refine WX_rows hT hmix [(0, none), (1, none), (2, none), (3, none), (4, none), (5, none), (6, none), (7, none), (8, none), (9, none), (10, none), (11, some [true, true, true, true, true, true, true, true, true, true, true]), (12, none)] (by kernel_rfl) ?_
    repeat' (first | simp only [go_sem, Nat.reduceLT, Nat.reduceEqDiff, Nat.reduceAdd, Nat.reduceMul, Nat.reduceSub, Nat.reduceLeDiff, Int.reduceToNat, Int.reduceNeg, Int.reduceLT, Int.reduceLE, Int.reduceEq, reduceCtorEq, Int.natCast_zero, Int.natCast_one, Int.cast_ofNat_Int, Bool.not_not, false_eq_decide, true_eq_decide, hread0, hreadk, read_cons0, read_consk, astore_h0, astore_hk, hget0, hgetk, hset0, hsetk, hlen, hcat, Nat.add_assoc, Nat.add_zero, Nat.zero_add, List.length_append, and_true, true_and, AV.flat, gt4, get_app gt4, read_get gt4, read_app gt4, hwo, one_solid hwo, one_cells hwo, *, -hK, -hXm, -hwl, -hvl, -hl3, -back, -hll, -gt4, -ow4, -hJ4, -hs2, -e2] | refine WC.call (hs2 _) ?_ | with_reducible refine IfB_dec (fun h => ?_) (fun h => ?_) | with_reducible refine Guard_dec (fun h => ?_) (fun h => ?_) | with_reducible refine Guard_ndec (fun h => ?_) (fun h => ?_) | with_reducible refine Guard_not (fun h => ?_) (fun h => ?_) | with_reducible refine IfB_ndec (fun h => ?_) (fun h => ?_) | with_reducible refine IfB_not (fun h => ?_) (fun h => ?_) | with_reducible refine Guard_split (fun h => ?_) (fun h => ?_) | with_reducible refine IfB_split (fun h => ?_) (fun h => ?_))
    exact hR3 _ _ (by (repeat (first | exact hs | refine hA _ _ _ (by decide) ?_))) (lf.length - (z + 1)) (by omega) ⟨z + 1, rfl, by omega, by simp only [go_sem, Nat.reduceLT, Nat.reduceEqDiff, Nat.reduceAdd, Nat.reduceMul, Nat.reduceSub, Nat.reduceLeDiff, Int.reduceToNat, Int.reduceNeg, Int.reduceLT, Int.reduceLE, Int.reduceEq, reduceCtorEq], rfl, by repeat (first | exact hAf3 | refine hA0 _ _ _ (by decide) ?_)⟩
  have cg := fun J => trRead_spec ts ac ⟨at_, ay⟩ (by omega) hts J
  have gk := hkey [.int .u8 ak, .int .i64 ac, .int .i64 at_, .str ay, chgE.lst ach] [.nils]
  unfold trAv Nm.av at cg
  rcases trRead_cases ts ac ⟨at_, ay⟩ hm with ⟨e0, ex⟩ | ⟨j, rfl, hj, hmn, hc⟩
  · generalize trRead ts ac ⟨at_, ay⟩ = ce at *
    obtain ⟨x, e⟩ := ce
    simp only at e0 ex cg
    subst ex
    repeat' (first | simp only [go_sem, Nat.reduceLT, Nat.reduceEqDiff, Nat.reduceAdd, Nat.reduceMul, Nat.reduceSub, Nat.reduceLeDiff, Int.reduceToNat, Int.reduceNeg, Int.reduceLT, Int.reduceLE, Int.reduceEq, reduceCtorEq, Int.natCast_zero, Int.natCast_one, Int.cast_ofNat_Int, Bool.not_not, false_eq_decide, true_eq_decide, hread0, hreadk, read_cons0, read_consk, astore_h0, astore_hk, hget0, hgetk, hset0, hsetk, hlen, hcat, Nat.add_assoc, Nat.add_zero, Nat.zero_add, List.length_append, and_true, true_and, AV.flat, gk, get_app gk, read_get gk, read_app gk, *, -hK, -gt, -ov, -hm, -hinv, -hvl, -hJ, -hk1, -hco, -back, -hts, -ht8, -hkey, -cg, -gk] | refine WC.call (cg _) ?_ | with_reducible refine IfB_dec (fun h => ?_) (fun h => ?_) | with_reducible refine Guard_dec (fun h => ?_) (fun h => ?_) | with_reducible refine Guard_ndec (fun h => ?_) (fun h => ?_) | with_reducible refine Guard_not (fun h => ?_) (fun h => ?_) | with_reducible refine IfB_ndec (fun h => ?_) (fun h => ?_) | with_reducible refine IfB_not (fun h => ?_) (fun h => ?_) | with_reducible refine Guard_split (fun h => ?_) (fun h => ?_) | with_reducible refine IfB_split (fun h => ?_) (fun h => ?_))
    exact back _ _ ts hv v (by (repeat (first | exact hs | refine hA _ _ _ (by decide) ?_))) (by simp only [go_sem, Nat.reduceLT, Nat.reduceEqDiff, Nat.reduceAdd, Nat.reduceMul, Nat.reduceSub, Nat.reduceLeDiff, Int.reduceToNat, Int.reduceNeg, Int.reduceLT, Int.reduceLE, Int.reduceEq, reduceCtorEq]) (by simp only [go_sem, Nat.reduceLT, Nat.reduceEqDiff, Nat.reduceAdd, Nat.reduceMul, Nat.reduceSub, Nat.reduceLeDiff, Int.reduceToNat, Int.reduceNeg, Int.reduceLT, Int.reduceLE, Int.reduceEq, reduceCtorEq]; exact f8) (hkey _ _) (ov.keep0 (Keep.app none _ _)) hm hinv (by omega) (by simp; omega)
  have hmj := hm.2.2 _ (List.getElem_mem hj)
  have e5 := at_enc (E := tkE) (T := T) (k := .i64) se22 hj rfl
  rw [tkE_cells] at e5
  rcases hc with ⟨ho, eR⟩ | ⟨ho, eR⟩
  · rw [eR] at cg
    rw [ho] at e5
    simp only at cg
    have gk2 := hkey [.int .u8 ak, .int .i64 (j : Int), .int .i64 at_, .str ay, chgE.lst ach] [tkE.lst ts]
    have hXp : ∀ p ∈ hv, p ∉ ([] : List Pu) → hasP ts p := fun p hp _ => hinv p hp
    have hXm := hm
    generalize hXX : ts = X at *
    repeat' (first | simp only [go_sem, Nat.reduceLT, Nat.reduceEqDiff, Nat.reduceAdd, Nat.reduceMul, Nat.reduceSub, Nat.reduceLeDiff, Int.reduceToNat, Int.reduceNeg, Int.reduceLT, Int.reduceLE, Int.reduceEq, reduceCtorEq, Int.natCast_zero, Int.natCast_one, Int.cast_ofNat_Int, Bool.not_not, false_eq_decide, true_eq_decide, hread0, hreadk, read_cons0, read_consk, astore_h0, astore_hk, hget0, hgetk, hset0, hsetk, hlen, hcat, Nat.add_assoc, Nat.add_zero, Nat.zero_add, List.length_append, and_true, true_and, AV.flat, gk, get_app gk, read_get gk, read_app gk, gk2, get_app gk2, read_get gk2, read_app gk2, *, -hK, -gt, -ov, -hm, -hinv, -hvl, -hJ, -hk1, -hco, -back, -hts, -ht8, -hkey, -cg, -gk, -hXm, -hXp, -hmj, -ho, -gk2] | refine WC.call (cg _) ?_ | with_reducible refine IfB_dec (fun h => ?_) (fun h => ?_) | with_reducible refine Guard_dec (fun h => ?_) (fun h => ?_) | with_reducible refine Guard_ndec (fun h => ?_) (fun h => ?_) | with_reducible refine Guard_not (fun h => ?_) (fun h => ?_) | with_reducible refine IfB_ndec (fun h => ?_) (fun h => ?_) | with_reducible refine IfB_not (fun h => ?_) (fun h => ?_) | with_reducible refine Guard_split (fun h => ?_) (fun h => ?_) | with_reducible refine IfB_split (fun h => ?_) (fun h => ?_))
    have gt2 := gk2
    have gx2 : (J ++ [(⟨[.int .u8 ak, .int .i64 (j : Int), .int .i64 at_, .str ay, chgE.lst ach], 0, .full⟩ : Blk), (⟨[tkE.lst X], 0, .full⟩ : Blk)] : Heap)[J.length + 1]? = some (⟨[tkE.lst X], 0, .full⟩ : Blk) := by rw [hgetk]; rfl
    have ov2 := ov.keep0 (Keep.app none J [(⟨[.int .u8 ak, .int .i64 (j : Int), .int .i64 at_, .str ay, chgE.lst ach], 0, .full⟩ : Blk), (⟨[tkE.lst X], 0, .full⟩ : Blk)])
    generalize hG2 : (J ++ [(⟨[.int .u8 ak, .int .i64 (j : Int), .int .i64 at_, .str ay, chgE.lst ach], 0, .full⟩ : Blk), (⟨[tkE.lst X], 0, .full⟩ : Blk)] : Heap) = G2 at *
    have hJl : J.length + 2 ≤ G2.length := by rw [← hG2]; simp
    have hPV : PV (puE.lst []) [] := .inl rfl
    have hPl : ([] : List Pu).length ≤ 128 := by simp
    generalize ([] : List Pu) = P at *
    have hwl : hv.length ≤ i + 1 := by omega
    clear hkey cg e1 hk1 hco hcl gk gk2 gt ov hG2 hmj
    have gt3 : (List.set G2 H.length ⟨[tkE.lst X], 0, .full⟩ : Heap)[H.length]? = some ⟨[tkE.lst X], 0, .full⟩ := List.getElem?_set_self (by omega)
    have ov3 : OwnE puE (H.length + 1) (List.set G2 H.length ⟨[tkE.lst X], 0, .full⟩ : Heap) v hv := ov2.keep (Keep.of_set rfl) (fun b hb e => by cases hb; have := ov2.ge e; omega)
    have hl3 : H.length + 1 ≤ (List.set G2 H.length ⟨[tkE.lst X], 0, .full⟩ : Heap).length := by simp; omega
    repeat' (first | simp only [go_sem, Nat.reduceLT, Nat.reduceEqDiff, Nat.reduceAdd, Nat.reduceMul, Nat.reduceSub, Nat.reduceLeDiff, Int.reduceToNat, Int.reduceNeg, Int.reduceLT, Int.reduceLE, Int.reduceEq, reduceCtorEq, Int.natCast_zero, Int.natCast_one, Int.cast_ofNat_Int, Bool.not_not, false_eq_decide, true_eq_decide, hread0, hreadk, read_cons0, read_consk, astore_h0, astore_hk, hget0, hgetk, hset0, hsetk, hlen, hcat, Nat.add_assoc, Nat.add_zero, Nat.zero_add, List.length_append, and_true, true_and, AV.flat, gx2, get_app gx2, read_get gx2, read_app gx2, gt2, get_app gt2, read_get gt2, read_app gt2, astore_get gt2, astore_app gt2, get_set gt2, get_set_app gt2, read_set gt2, read_set_app gt2, astore_set gt2, astore_set_app gt2, List.set_set, hget0s, hgetks, hread0s, hreadks, List.length_set, hvo, one_solid hvo, one_cells hvo, *, -hK, -hXm, -hXp, -hwl, -ov2, -hinv, -hvl, -ov3, -gt3, -hl3, -back, -hPl] | with_reducible refine IfB_dec (fun h => ?_) (fun h => ?_) | with_reducible refine Guard_dec (fun h => ?_) (fun h => ?_) | with_reducible refine Guard_ndec (fun h => ?_) (fun h => ?_) | with_reducible refine Guard_not (fun h => ?_) (fun h => ?_) | with_reducible refine IfB_ndec (fun h => ?_) (fun h => ?_) | with_reducible refine IfB_not (fun h => ?_) (fun h => ?_) | with_reducible refine Guard_split (fun h => ?_) (fun h => ?_) | with_reducible refine IfB_split (fun h => ?_) (fun h => ?_))
    generalize (List.set G2 H.length ⟨[tkE.lst X], 0, .full⟩ : Heap) = G3 at *
    clear gx2 gt2 ov2
    have hpl := hPV.len
    have hpo := hPV.one
    have o1 := s1
    have o5 := s5
    have o6 := s6
    have hA0 := hA
    generalize hw : hv = hw' at *
    generalize hvv : v = v' at *
    have hvo2 := ov3.one
    refine WX_loopS [1, 5, 6, 8, 9, 12] (fun k fr' J4 => ∃ (q : Nat) (w : AV), k = hw'.length - q ∧ q ≤ hw'.length ∧ fr'.get 15 = .int .i64 q ∧ fr'.get 14 = w ∧ OwnE puE G3.length J4 w (leftL (hw'.take q) P) ∧ Keep none G3 J4 ∧ A fr') hw'.length ⟨0, .nils, rfl, by omega, by simp only [go_sem, Nat.reduceLT, Nat.reduceEqDiff, Nat.reduceAdd, Nat.reduceMul, Nat.reduceSub, Nat.reduceLeDiff, Int.reduceToNat, Int.reduceNeg, Int.reduceLT, Int.reduceLE, Int.reduceEq, reduceCtorEq]; rfl, by simp only [go_sem, Nat.reduceLT, Nat.reduceEqDiff, Nat.reduceAdd, Nat.reduceMul, Nat.reduceSub, Nat.reduceLeDiff, Int.reduceToNat, Int.reduceNeg, Int.reduceLT, Int.reduceLE, Int.reduceEq, reduceCtorEq], OwnE.nils _ _ _, Keep.refl _ _, by (repeat (first | exact hs | refine hA _ _ _ (by decide) ?_))⟩ ?_
    clear hg hs hA s1 s5 s6
    rintro k fr' J4 A2 R2 hA hs hg hR2 ⟨q, w, rfl, hq, f15, f14, ow, k4, hAf⟩
    have s1 := hg 1 (by decide)
    have s5 := hg 5 (by decide)
    have s6 := hg 6 (by decide)
    have s8 := hg 8 (by decide)
    have s9 := hg 9 (by decide)
    have s12 := hg 12 (by decide)
    simp only [Fr.get_put, Fr.get_init, List.getD_cons_zero, List.getD_cons_succ, Nat.reduceEqDiff, if_true, if_false] at s1 s5 s6 s8 s9 s12
    rw [o1] at s1
    rw [o5] at s5
    rw [o6] at s6
    clear o1 o5 o6
    refine wx_sound hT _ ?_
    have hwo := ow.one
    have ov4 := ov3.keep0 k4
    have e0 := ov4.alen (by decide) tk31
    by_cases hlq : q < hw'.length
    · have i6 : (q : Int) < hw'.length := by omega
      have e7 := inc_id hlq (by omega)
      obtain ⟨pb, po, e1, e2, -⟩ := ov4.at_ (by decide) se31 hlq (k := .i64) rfl
      rw [show puE.sz = 3 from rfl, puE_cells] at e2
      have hls := leftL_step (P := P) hlq
      have hll : (leftL (hw'.take q) P).length ≤ q := by
        have := List.length_filter_le (fun p => !decide (p ∈ P)) (hw'.take q)
        rw [List.length_take] at this; unfold leftL; omega
      have hJ4 : G3.length ≤ J4.length := k4.len
      have back2 : ∀ fr2 J5 w2, A2 fr2 → fr2.get 15 = .int .i64 ((q + 1 : Nat) : Int) → fr2.get 14 = w2 → OwnE puE G3.length J5 w2 (leftL (hw'.take (q + 1)) P) → Keep none G3 J5 → A fr2 → R2 fr2 J5 := fun fr2 J5 w2 ha j1 j2 j3 j4 j5 => hR2 fr2 J5 ha (hw'.length - (q + 1)) (by omega) ⟨q + 1, w2, rfl, by omega, j1, j2, j3, j4, j5⟩
      rw [hls] at back2
      clear hR2 hls back
      generalize hw'[q] = x at *
      repeat' (first | simp only [go_sem, Nat.reduceLT, Nat.reduceEqDiff, Nat.reduceAdd, Nat.reduceMul, Nat.reduceSub, Nat.reduceLeDiff, Int.reduceToNat, Int.reduceNeg, Int.reduceLT, Int.reduceLE, Int.reduceEq, reduceCtorEq, Int.natCast_zero, Int.natCast_one, Int.cast_ofNat_Int, Bool.not_not, false_eq_decide, true_eq_decide, hread0, hreadk, read_cons0, read_consk, astore_h0, astore_hk, hget0, hgetk, hset0, hsetk, hlen, hcat, Nat.add_assoc, Nat.add_zero, Nat.zero_add, List.length_append, and_true, true_and, AV.flat, hvo2, one_solid hvo2, one_cells hvo2, hwo, one_solid hwo, one_cells hwo, hpo, one_solid hpo, one_cells hpo, *, -hK, -hXm, -hXp, -hwl, -hinv, -hvl, -ov3, -ov4, -ow, -k4, -hl3, -back2, -hll, -hJ4, -e1, -e2] | with_reducible refine IfB_dec (fun h => ?_) (fun h => ?_) | with_reducible refine Guard_dec (fun h => ?_) (fun h => ?_) | with_reducible refine Guard_ndec (fun h => ?_) (fun h => ?_) | with_reducible refine Guard_not (fun h => ?_) (fun h => ?_) | with_reducible refine IfB_ndec (fun h => ?_) (fun h => ?_) | with_reducible refine IfB_not (fun h => ?_) (fun h => ?_) | with_reducible refine Guard_split (fun h => ?_) (fun h => ?_) | with_reducible refine IfB_split (fun h => ?_) (fun h => ?_))
      have o1 := s1
      have o5 := s5
      have o6 := s6
      have o8 := s8
      have o9 := s9
      have o12 := s12
      have hB0 := hA
      refine WX_loopS [1, 5, 6, 8, 9, 12, 14, 15] (fun k fr' J5 => ∃ (z : Nat), k = P.length - z ∧ z ≤ P.length ∧ fr'.get 17 = .int .i64 z ∧ fr'.get 16 = .bool (decide (x ∈ P.take z)) ∧ J5 = J4 ∧ A fr' ∧ A2 fr') P.length ⟨0, rfl, by omega, by simp only [go_sem, Nat.reduceLT, Nat.reduceEqDiff, Nat.reduceAdd, Nat.reduceMul, Nat.reduceSub, Nat.reduceLeDiff, Int.reduceToNat, Int.reduceNeg, Int.reduceLT, Int.reduceLE, Int.reduceEq, reduceCtorEq]; rfl, by simp only [go_sem, Nat.reduceLT, Nat.reduceEqDiff, Nat.reduceAdd, Nat.reduceMul, Nat.reduceSub, Nat.reduceLeDiff, Int.reduceToNat, Int.reduceNeg, Int.reduceLT, Int.reduceLE, Int.reduceEq, reduceCtorEq]; simp, rfl, by repeat (first | exact hAf | refine hA0 _ _ _ (by decide) ?_), by (repeat (first | exact hs | refine hA _ _ _ (by decide) ?_))⟩ ?_
      clear hg hs hA s1 s5 s6 s8 s9 s12
      rintro k fr' J5 A3 R3 hA hs hg hR3 ⟨z, rfl, hz, f17, f16, rfl, hAf3, hBf3⟩
      have s1 := hg 1 (by decide)
      have s5 := hg 5 (by decide)
      have s6 := hg 6 (by decide)
      have s8 := hg 8 (by decide)
      have s9 := hg 9 (by decide)
      have s12 := hg 12 (by decide)
      have s14 := hg 14 (by decide)
      have s15 := hg 15 (by decide)
      simp only [Fr.get_put, Fr.get_init, List.getD_cons_zero, List.getD_cons_succ, Nat.reduceEqDiff, if_true, if_false] at s1 s5 s6 s8 s9 s12 s14 s15
      rw [o1] at s1
      rw [o5] at s5
      rw [o6] at s6
      rw [o8] at s8
      rw [o9] at s9
      rw [o12] at s12
      rw [f14] at s14
      rw [f15] at s15
      clear o1 o5 o6 o8 o9 o12 f14 f15
      refine wx_sound hT _ ?_
      by_cases hlz : z < P.length
      · have i8 : (z : Int) < P.length := by omega
        have e8 := hPV.at_ hlz
        rw [puE_cells] at e8
        have e9 := inc_id hlz (by omega)
        have hms := memP_step hlz x
        have back3 : ∀ fr2 J6, A3 fr2 → fr2.get 17 = .int .i64 ((z + 1 : Nat) : Int) → fr2.get 16 = .bool (decide (x ∈ P.take z) || decide (P[z] = x)) → J6 = J5 → A fr2 → A2 fr2 → R3 fr2 J6 := fun fr2 J6 ha j1 j2 j3 j4 j5 => hR3 fr2 J6 ha (P.length - (z + 1)) (by omega) ⟨z + 1, rfl, by omega, j1, by rw [hms]; exact j2, j3, j4, j5⟩
        clear hR3 hms back2
        generalize P[z] = y at *
        generalize decide (x ∈ P.take z) = td at *
        obtain ⟨xc, xt, xk⟩ := x
        obtain ⟨yc, yt, yk⟩ := y
        simp only at e2 e8
        cases td with
        | true =>
          rw [Bool.true_or] at back3
          repeat' (first | simp only [go_sem, Nat.reduceLT, Nat.reduceEqDiff, Nat.reduceAdd, Nat.reduceMul, Nat.reduceSub, Nat.reduceLeDiff, Int.reduceToNat, Int.reduceNeg, Int.reduceLT, Int.reduceLE, Int.reduceEq, reduceCtorEq, Int.natCast_zero, Int.natCast_one, Int.cast_ofNat_Int, Bool.not_not, false_eq_decide, true_eq_decide, hread0, hreadk, read_cons0, read_consk, astore_h0, astore_hk, hget0, hgetk, hset0, hsetk, hlen, hcat, Nat.add_assoc, Nat.add_zero, Nat.zero_add, List.length_append, and_true, true_and, AV.flat, hvo2, one_solid hvo2, one_cells hvo2, hwo, one_solid hwo, one_cells hwo, hpo, one_solid hpo, one_cells hpo, *, -hK, -hXm, -hXp, -hwl, -hinv, -hvl, -ov3, -ov4, -ow, -k4, -hl3, -back3, -hll, -hJ4] | with_reducible refine IfB_dec (fun h => ?_) (fun h => ?_) | with_reducible refine Guard_dec (fun h => ?_) (fun h => ?_) | with_reducible refine Guard_ndec (fun h => ?_) (fun h => ?_) | with_reducible refine Guard_not (fun h => ?_) (fun h => ?_) | with_reducible refine IfB_ndec (fun h => ?_) (fun h => ?_) | with_reducible refine IfB_not (fun h => ?_) (fun h => ?_) | with_reducible refine Guard_split (fun h => ?_) (fun h => ?_) | with_reducible refine IfB_split (fun h => ?_) (fun h => ?_))
          refine WX_rows hT hmix [(0, none), (1, none), (2, none), (3, none), (4, none), (5, none), (6, none), (7, none), (8, none), (9, none), (10, none), (11, none), (12, none)] (by kernel_rfl) ?_
          repeat' (first | simp only [go_sem, Nat.reduceLT, Nat.reduceEqDiff, Nat.reduceAdd, Nat.reduceMul, Nat.reduceSub, Nat.reduceLeDiff, Int.reduceToNat, Int.reduceNeg, Int.reduceLT, Int.reduceLE, Int.reduceEq, reduceCtorEq, Int.natCast_zero, Int.natCast_one, Int.cast_ofNat_Int, Bool.not_not, false_eq_decide, true_eq_decide, hread0, hreadk, read_cons0, read_consk, astore_h0, astore_hk, hget0, hgetk, hset0, hsetk, hlen, hcat, Nat.add_assoc, Nat.add_zero, Nat.zero_add, List.length_append, and_true, true_and, AV.flat, hvo2, one_solid hvo2, one_cells hvo2, hwo, one_solid hwo, one_cells hwo, hpo, one_solid hpo, one_cells hpo, *, -hK, -hXm, -hXp, -hwl, -hinv, -hvl, -ov3, -ov4, -ow, -k4, -hl3, -back3, -hll, -hJ4] | with_reducible refine IfB_dec (fun h => ?_) (fun h => ?_) | with_reducible refine Guard_dec (fun h => ?_) (fun h => ?_) | with_reducible refine Guard_ndec (fun h => ?_) (fun h => ?_) | with_reducible refine Guard_not (fun h => ?_) (fun h => ?_) | with_reducible refine IfB_ndec (fun h => ?_) (fun h => ?_) | with_reducible refine IfB_not (fun h => ?_) (fun h => ?_) | with_reducible refine Guard_split (fun h => ?_) (fun h => ?_) | with_reducible refine IfB_split (fun h => ?_) (fun h => ?_))
          exact back3 _ _ (by (repeat (first | exact hs | refine hA _ _ _ (by decide) ?_))) (by simp only [go_sem, Nat.reduceLT, Nat.reduceEqDiff, Nat.reduceAdd, Nat.reduceMul, Nat.reduceSub, Nat.reduceLeDiff, Int.reduceToNat, Int.reduceNeg, Int.reduceLT, Int.reduceLE, Int.reduceEq, reduceCtorEq]) (by simp only [go_sem, Nat.reduceLT, Nat.reduceEqDiff, Nat.reduceAdd, Nat.reduceMul, Nat.reduceSub, Nat.reduceLeDiff, Int.reduceToNat, Int.reduceNeg, Int.reduceLT, Int.reduceLE, Int.reduceEq, reduceCtorEq]) rfl (by repeat (first | exact hAf3 | refine hA0 _ _ _ (by decide) ?_)) (by repeat (first | exact hBf3 | refine hB0 _ _ _ (by decide) ?_))
        | false =>
          rw [Bool.false_or] at back3
          by_cases h1 : yc = xc
          · by_cases h2 : yt = xt
            · by_cases h3 : yk = xk
              · subst h1 h2 h3
                rw [decide_eq_true rfl] at back3
                repeat' (first | simp only [go_sem, Nat.reduceLT, Nat.reduceEqDiff, Nat.reduceAdd, Nat.reduceMul, Nat.reduceSub, Nat.reduceLeDiff, Int.reduceToNat, Int.reduceNeg, Int.reduceLT, Int.reduceLE, Int.reduceEq, reduceCtorEq, Int.natCast_zero, Int.natCast_one, Int.cast_ofNat_Int, Bool.not_not, false_eq_decide, true_eq_decide, hread0, hreadk, read_cons0, read_consk, astore_h0, astore_hk, hget0, hgetk, hset0, hsetk, hlen, hcat, Nat.add_assoc, Nat.add_zero, Nat.zero_add, List.length_append, and_true, true_and, AV.flat, hvo2, one_solid hvo2, one_cells hvo2, hwo, one_solid hwo, one_cells hwo, hpo, one_solid hpo, one_cells hpo, *, -hK, -hXm, -hXp, -hwl, -hinv, -hvl, -ov3, -ov4, -ow, -k4, -hl3, -back3, -hll, -hJ4] | with_reducible refine IfB_dec (fun h => ?_) (fun h => ?_) | with_reducible refine Guard_dec (fun h => ?_) (fun h => ?_) | with_reducible refine Guard_ndec (fun h => ?_) (fun h => ?_) | with_reducible refine Guard_not (fun h => ?_) (fun h => ?_) | with_reducible refine IfB_ndec (fun h => ?_) (fun h => ?_) | with_reducible refine IfB_not (fun h => ?_) (fun h => ?_) | with_reducible refine Guard_split (fun h => ?_) (fun h => ?_) | with_reducible refine IfB_split (fun h => ?_) (fun h => ?_))
                refine WX_rows hT hmix [(0, none), (1, none), (2, none), (3, none), (4, none), (5, none), (6, none), (7, none), (8, none), (9, none), (10, none), (11, none), (12, none)] (by kernel_rfl) ?_
                repeat' (first | simp only [go_sem, Nat.reduceLT, Nat.reduceEqDiff, Nat.reduceAdd, Nat.reduceMul, Nat.reduceSub, Nat.reduceLeDiff, Int.reduceToNat, Int.reduceNeg, Int.reduceLT, Int.reduceLE, Int.reduceEq, reduceCtorEq, Int.natCast_zero, Int.natCast_one, Int.cast_ofNat_Int, Bool.not_not, false_eq_decide, true_eq_decide, hread0, hreadk, read_cons0, read_consk, astore_h0, astore_hk, hget0, hgetk, hset0, hsetk, hlen, hcat, Nat.add_assoc, Nat.add_zero, Nat.zero_add, List.length_append, and_true, true_and, AV.flat, hvo2, one_solid hvo2, one_cells hvo2, hwo, one_solid hwo, one_cells hwo, hpo, one_solid hpo, one_cells hpo, *, -hK, -hXm, -hXp, -hwl, -hinv, -hvl, -ov3, -ov4, -ow, -k4, -hl3, -back3, -hll, -hJ4] | with_reducible refine IfB_dec (fun h => ?_) (fun h => ?_) | with_reducible refine Guard_dec (fun h => ?_) (fun h => ?_) | with_reducible refine Guard_ndec (fun h => ?_) (fun h => ?_) | with_reducible refine Guard_not (fun h => ?_) (fun h => ?_) | with_reducible refine IfB_ndec (fun h => ?_) (fun h => ?_) | with_reducible refine IfB_not (fun h => ?_) (fun h => ?_) | with_reducible refine Guard_split (fun h => ?_) (fun h => ?_) | with_reducible refine IfB_split (fun h => ?_) (fun h => ?_))
                exact back3 _ _ (by (repeat (first | exact hs | refine hA _ _ _ (by decide) ?_))) (by simp only [go_sem, Nat.reduceLT, Nat.reduceEqDiff, Nat.reduceAdd, Nat.reduceMul, Nat.reduceSub, Nat.reduceLeDiff, Int.reduceToNat, Int.reduceNeg, Int.reduceLT, Int.reduceLE, Int.reduceEq, reduceCtorEq]) (by simp only [go_sem, Nat.reduceLT, Nat.reduceEqDiff, Nat.reduceAdd, Nat.reduceMul, Nat.reduceSub, Nat.reduceLeDiff, Int.reduceToNat, Int.reduceNeg, Int.reduceLT, Int.reduceLE, Int.reduceEq, reduceCtorEq]) rfl (by repeat (first | exact hAf3 | refine hA0 _ _ _ (by decide) ?_)) (by repeat (first | exact hBf3 | refine hB0 _ _ _ (by decide) ?_))
              · rw [show decide ((⟨yc, yt, yk⟩ : Pu) = ⟨xc, xt, xk⟩) = false by simp [h3]] at back3
                subst h1 h2
                repeat' (first | simp only [go_sem, Nat.reduceLT, Nat.reduceEqDiff, Nat.reduceAdd, Nat.reduceMul, Nat.reduceSub, Nat.reduceLeDiff, Int.reduceToNat, Int.reduceNeg, Int.reduceLT, Int.reduceLE, Int.reduceEq, reduceCtorEq, Int.natCast_zero, Int.natCast_one, Int.cast_ofNat_Int, Bool.not_not, false_eq_decide, true_eq_decide, hread0, hreadk, read_cons0, read_consk, astore_h0, astore_hk, hget0, hgetk, hset0, hsetk, hlen, hcat, Nat.add_assoc, Nat.add_zero, Nat.zero_add, List.length_append, and_true, true_and, AV.flat, hvo2, one_solid hvo2, one_cells hvo2, hwo, one_solid hwo, one_cells hwo, hpo, one_solid hpo, one_cells hpo, *, -hK, -hXm, -hXp, -hwl, -hinv, -hvl, -ov3, -ov4, -ow, -k4, -hl3, -back3, -hll, -hJ4] | with_reducible refine IfB_dec (fun h => ?_) (fun h => ?_) | with_reducible refine Guard_dec (fun h => ?_) (fun h => ?_) | with_reducible refine Guard_ndec (fun h => ?_) (fun h => ?_) | with_reducible refine Guard_not (fun h => ?_) (fun h => ?_) | with_reducible refine IfB_ndec (fun h => ?_) (fun h => ?_) | with_reducible refine IfB_not (fun h => ?_) (fun h => ?_) | with_reducible refine Guard_split (fun h => ?_) (fun h => ?_) | with_reducible refine IfB_split (fun h => ?_) (fun h => ?_))
                refine WX_rows hT hmix [(0, none), (1, none), (2, none), (3, none), (4, none), (5, none), (6, none), (7, none), (8, none), (9, none), (10, none), (11, none), (12, none)] (by kernel_rfl) ?_
                repeat' (first | simp only [go_sem, Nat.reduceLT, Nat.reduceEqDiff, Nat.reduceAdd, Nat.reduceMul, Nat.reduceSub, Nat.reduceLeDiff, Int.reduceToNat, Int.reduceNeg, Int.reduceLT, Int.reduceLE, Int.reduceEq, reduceCtorEq, Int.natCast_zero, Int.natCast_one, Int.cast_ofNat_Int, Bool.not_not, false_eq_decide, true_eq_decide, hread0, hreadk, read_cons0, read_consk, astore_h0, astore_hk, hget0, hgetk, hset0, hsetk, hlen, hcat, Nat.add_assoc, Nat.add_zero, Nat.zero_add, List.length_append, and_true, true_and, AV.flat, hvo2, one_solid hvo2, one_cells hvo2, hwo, one_solid hwo, one_cells hwo, hpo, one_solid hpo, one_cells hpo, *, -hK, -hXm, -hXp, -hwl, -hinv, -hvl, -ov3, -ov4, -ow, -k4, -hl3, -back3, -hll, -hJ4] | with_reducible refine IfB_dec (fun h => ?_) (fun h => ?_) | with_reducible refine Guard_dec (fun h => ?_) (fun h => ?_) | with_reducible refine Guard_ndec (fun h => ?_) (fun h => ?_) | with_reducible refine Guard_not (fun h => ?_) (fun h => ?_) | with_reducible refine IfB_ndec (fun h => ?_) (fun h => ?_) | with_reducible refine IfB_not (fun h => ?_) (fun h => ?_) | with_reducible refine Guard_split (fun h => ?_) (fun h => ?_) | with_reducible refine IfB_split (fun h => ?_) (fun h => ?_))
                exact back3 _ _ (by (repeat (first | exact hs | refine hA _ _ _ (by decide) ?_))) (by simp only [go_sem, Nat.reduceLT, Nat.reduceEqDiff, Nat.reduceAdd, Nat.reduceMul, Nat.reduceSub, Nat.reduceLeDiff, Int.reduceToNat, Int.reduceNeg, Int.reduceLT, Int.reduceLE, Int.reduceEq, reduceCtorEq]) (by simp only [go_sem, Nat.reduceLT, Nat.reduceEqDiff, Nat.reduceAdd, Nat.reduceMul, Nat.reduceSub, Nat.reduceLeDiff, Int.reduceToNat, Int.reduceNeg, Int.reduceLT, Int.reduceLE, Int.reduceEq, reduceCtorEq]) rfl (by repeat (first | exact hAf3 | refine hA0 _ _ _ (by decide) ?_)) (by repeat (first | exact hBf3 | refine hB0 _ _ _ (by decide) ?_))
            · rw [show decide ((⟨yc, yt, yk⟩ : Pu) = ⟨xc, xt, xk⟩) = false by simp [h2]] at back3
              subst h1
              repeat' (first | simp only [go_sem, Nat.reduceLT, Nat.reduceEqDiff, Nat.reduceAdd, Nat.reduceMul, Nat.reduceSub, Nat.reduceLeDiff, Int.reduceToNat, Int.reduceNeg, Int.reduceLT, Int.reduceLE, Int.reduceEq, reduceCtorEq, Int.natCast_zero, Int.natCast_one, Int.cast_ofNat_Int, Bool.not_not, false_eq_decide, true_eq_decide, hread0, hreadk, read_cons0, read_consk, astore_h0, astore_hk, hget0, hgetk, hset0, hsetk, hlen, hcat, Nat.add_assoc, Nat.add_zero, Nat.zero_add, List.length_append, and_true, true_and, AV.flat, hvo2, one_solid hvo2, one_cells hvo2, hwo, one_solid hwo, one_cells hwo, hpo, one_solid hpo, one_cells hpo, *, -hK, -hXm, -hXp, -hwl, -hinv, -hvl, -ov3, -ov4, -ow, -k4, -hl3, -back3, -hll, -hJ4] | with_reducible refine IfB_dec (fun h => ?_) (fun h => ?_) | with_reducible refine Guard_dec (fun h => ?_) (fun h => ?_) | with_reducible refine Guard_ndec (fun h => ?_) (fun h => ?_) | with_reducible refine Guard_not (fun h => ?_) (fun h => ?_) | with_reducible refine IfB_ndec (fun h => ?_) (fun h => ?_) | with_reducible refine IfB_not (fun h => ?_) (fun h => ?_) | with_reducible refine Guard_split (fun h => ?_) (fun h => ?_) | with_reducible refine IfB_split (fun h => ?_) (fun h => ?_))
              refine WX_rows hT hmix [(0, none), (1, none), (2, none), (3, none), (4, none), (5, none), (6, none), (7, none), (8, none), (9, none), (10, none), (11, none), (12, none)] (by kernel_rfl) ?_
              repeat' (first | simp only [go_sem, Nat.reduceLT, Nat.reduceEqDiff, Nat.reduceAdd, Nat.reduceMul, Nat.reduceSub, Nat.reduceLeDiff, Int.reduceToNat, Int.reduceNeg, Int.reduceLT, Int.reduceLE, Int.reduceEq, reduceCtorEq, Int.natCast_zero, Int.natCast_one, Int.cast_ofNat_Int, Bool.not_not, false_eq_decide, true_eq_decide, hread0, hreadk, read_cons0, read_consk, astore_h0, astore_hk, hget0, hgetk, hset0, hsetk, hlen, hcat, Nat.add_assoc, Nat.add_zero, Nat.zero_add, List.length_append, and_true, true_and, AV.flat, hvo2, one_solid hvo2, one_cells hvo2, hwo, one_solid hwo, one_cells hwo, hpo, one_solid hpo, one_cells hpo, *, -hK, -hXm, -hXp, -hwl, -hinv, -hvl, -ov3, -ov4, -ow, -k4, -hl3, -back3, -hll, -hJ4] | with_reducible refine IfB_dec (fun h => ?_) (fun h => ?_) | with_reducible refine Guard_dec (fun h => ?_) (fun h => ?_) | with_reducible refine Guard_ndec (fun h => ?_) (fun h => ?_) | with_reducible refine Guard_not (fun h => ?_) (fun h => ?_) | with_reducible refine IfB_ndec (fun h => ?_) (fun h => ?_) | with_reducible refine IfB_not (fun h => ?_) (fun h => ?_) | with_reducible refine Guard_split (fun h => ?_) (fun h => ?_) | with_reducible refine IfB_split (fun h => ?_) (fun h => ?_))
              exact back3 _ _ (by (repeat (first | exact hs | refine hA _ _ _ (by decide) ?_))) (by simp only [go_sem, Nat.reduceLT, Nat.reduceEqDiff, Nat.reduceAdd, Nat.reduceMul, Nat.reduceSub, Nat.reduceLeDiff, Int.reduceToNat, Int.reduceNeg, Int.reduceLT, Int.reduceLE, Int.reduceEq, reduceCtorEq]) (by simp only [go_sem, Nat.reduceLT, Nat.reduceEqDiff, Nat.reduceAdd, Nat.reduceMul, Nat.reduceSub, Nat.reduceLeDiff, Int.reduceToNat, Int.reduceNeg, Int.reduceLT, Int.reduceLE, Int.reduceEq, reduceCtorEq]) rfl (by repeat (first | exact hAf3 | refine hA0 _ _ _ (by decide) ?_)) (by repeat (first | exact hBf3 | refine hB0 _ _ _ (by decide) ?_))
          · rw [show decide ((⟨yc, yt, yk⟩ : Pu) = ⟨xc, xt, xk⟩) = false by simp [h1]] at back3
            repeat' (first | simp only [go_sem, Nat.reduceLT, Nat.reduceEqDiff, Nat.reduceAdd, Nat.reduceMul, Nat.reduceSub, Nat.reduceLeDiff, Int.reduceToNat, Int.reduceNeg, Int.reduceLT, Int.reduceLE, Int.reduceEq, reduceCtorEq, Int.natCast_zero, Int.natCast_one, Int.cast_ofNat_Int, Bool.not_not, false_eq_decide, true_eq_decide, hread0, hreadk, read_cons0, read_consk, astore_h0, astore_hk, hget0, hgetk, hset0, hsetk, hlen, hcat, Nat.add_assoc, Nat.add_zero, Nat.zero_add, List.length_append, and_true, true_and, AV.flat, hvo2, one_solid hvo2, one_cells hvo2, hwo, one_solid hwo, one_cells hwo, hpo, one_solid hpo, one_cells hpo, *, -hK, -hXm, -hXp, -hwl, -hinv, -hvl, -ov3, -ov4, -ow, -k4, -hl3, -back3, -hll, -hJ4] | with_reducible refine IfB_dec (fun h => ?_) (fun h => ?_) | with_reducible refine Guard_dec (fun h => ?_) (fun h => ?_) | with_reducible refine Guard_ndec (fun h => ?_) (fun h => ?_) | with_reducible refine Guard_not (fun h => ?_) (fun h => ?_) | with_reducible refine IfB_ndec (fun h => ?_) (fun h => ?_) | with_reducible refine IfB_not (fun h => ?_) (fun h => ?_) | with_reducible refine Guard_split (fun h => ?_) (fun h => ?_) | with_reducible refine IfB_split (fun h => ?_) (fun h => ?_))
            refine WX_rows hT hmix [(0, none), (1, none), (2, none), (3, none), (4, none), (5, none), (6, none), (7, none), (8, none), (9, none), (10, none), (11, none), (12, none)] (by kernel_rfl) ?_
            repeat' (first | simp only [go_sem, Nat.reduceLT, Nat.reduceEqDiff, Nat.reduceAdd, Nat.reduceMul, Nat.reduceSub, Nat.reduceLeDiff, Int.reduceToNat, Int.reduceNeg, Int.reduceLT, Int.reduceLE, Int.reduceEq, reduceCtorEq, Int.natCast_zero, Int.natCast_one, Int.cast_ofNat_Int, Bool.not_not, false_eq_decide, true_eq_decide, hread0, hreadk, read_cons0, read_consk, astore_h0, astore_hk, hget0, hgetk, hset0, hsetk, hlen, hcat, Nat.add_assoc, Nat.add_zero, Nat.zero_add, List.length_append, and_true, true_and, AV.flat, hvo2, one_solid hvo2, one_cells hvo2, hwo, one_solid hwo, one_cells hwo, hpo, one_solid hpo, one_cells hpo, *, -hK, -hXm, -hXp, -hwl, -hinv, -hvl, -ov3, -ov4, -ow, -k4, -hl3, -back3, -hll, -hJ4] | with_reducible refine IfB_dec (fun h => ?_) (fun h => ?_) | with_reducible refine Guard_dec (fun h => ?_) (fun h => ?_) | with_reducible refine Guard_ndec (fun h => ?_) (fun h => ?_) | with_reducible refine Guard_not (fun h => ?_) (fun h => ?_) | with_reducible refine IfB_ndec (fun h => ?_) (fun h => ?_) | with_reducible refine IfB_not (fun h => ?_) (fun h => ?_) | with_reducible refine Guard_split (fun h => ?_) (fun h => ?_) | with_reducible refine IfB_split (fun h => ?_) (fun h => ?_))
            exact back3 _ _ (by (repeat (first | exact hs | refine hA _ _ _ (by decide) ?_))) (by simp only [go_sem, Nat.reduceLT, Nat.reduceEqDiff, Nat.reduceAdd, Nat.reduceMul, Nat.reduceSub, Nat.reduceLeDiff, Int.reduceToNat, Int.reduceNeg, Int.reduceLT, Int.reduceLE, Int.reduceEq, reduceCtorEq]) (by simp only [go_sem, Nat.reduceLT, Nat.reduceEqDiff, Nat.reduceAdd, Nat.reduceMul, Nat.reduceSub, Nat.reduceLeDiff, Int.reduceToNat, Int.reduceNeg, Int.reduceLT, Int.reduceLE, Int.reduceEq, reduceCtorEq]) rfl (by repeat (first | exact hAf3 | refine hA0 _ _ _ (by decide) ?_)) (by repeat (first | exact hBf3 | refine hB0 _ _ _ (by decide) ?_))
      have i8 : ¬ (z : Int) < P.length := by omega
      have hze : z = P.length := by omega
      rw [hze, List.take_length] at f16
      by_cases hxP : x ∈ P
      · rw [decide_eq_true hxP] at f16
        rw [if_pos hxP, List.append_nil] at back2
        repeat' (first | simp only [go_sem, Nat.reduceLT, Nat.reduceEqDiff, Nat.reduceAdd, Nat.reduceMul, Nat.reduceSub, Nat.reduceLeDiff, Int.reduceToNat, Int.reduceNeg, Int.reduceLT, Int.reduceLE, Int.reduceEq, reduceCtorEq, Int.natCast_zero, Int.natCast_one, Int.cast_ofNat_Int, Bool.not_not, false_eq_decide, true_eq_decide, hread0, hreadk, read_cons0, read_consk, astore_h0, astore_hk, hget0, hgetk, hset0, hsetk, hlen, hcat, Nat.add_assoc, Nat.add_zero, Nat.zero_add, List.length_append, and_true, true_and, AV.flat, hvo2, one_solid hvo2, one_cells hvo2, hwo, one_solid hwo, one_cells hwo, hpo, one_solid hpo, one_cells hpo, *, -hK, -hXm, -hXp, -hwl, -hinv, -hvl, -ov3, -ov4, -ow, -k4, -hl3, -back2, -hll, -hJ4, -hze, -hxP, -e2] | with_reducible refine IfB_dec (fun h => ?_) (fun h => ?_) | with_reducible refine Guard_dec (fun h => ?_) (fun h => ?_) | with_reducible refine Guard_ndec (fun h => ?_) (fun h => ?_) | with_reducible refine Guard_not (fun h => ?_) (fun h => ?_) | with_reducible refine IfB_ndec (fun h => ?_) (fun h => ?_) | with_reducible refine IfB_not (fun h => ?_) (fun h => ?_) | with_reducible refine Guard_split (fun h => ?_) (fun h => ?_) | with_reducible refine IfB_split (fun h => ?_) (fun h => ?_))
        exact back2 _ _ _ (by repeat (first | exact hBf3 | refine hB0 _ _ _ (by decide) ?_)) (by simp only [go_sem, Nat.reduceLT, Nat.reduceEqDiff, Nat.reduceAdd, Nat.reduceMul, Nat.reduceSub, Nat.reduceLeDiff, Int.reduceToNat, Int.reduceNeg, Int.reduceLT, Int.reduceLE, Int.reduceEq, reduceCtorEq]) (by simp only [go_sem, Nat.reduceLT, Nat.reduceEqDiff, Nat.reduceAdd, Nat.reduceMul, Nat.reduceSub, Nat.reduceLeDiff, Int.reduceToNat, Int.reduceNeg, Int.reduceLT, Int.reduceLE, Int.reduceEq, reduceCtorEq]; exact s14) ow k4 (by repeat (first | exact hAf3 | refine hA0 _ _ _ (by decide) ?_))
      · rw [decide_eq_false hxP] at f16
        rw [if_neg hxP] at back2
        repeat' (first | simp only [go_sem, Nat.reduceLT, Nat.reduceEqDiff, Nat.reduceAdd, Nat.reduceMul, Nat.reduceSub, Nat.reduceLeDiff, Int.reduceToNat, Int.reduceNeg, Int.reduceLT, Int.reduceLE, Int.reduceEq, reduceCtorEq, Int.natCast_zero, Int.natCast_one, Int.cast_ofNat_Int, Bool.not_not, false_eq_decide, true_eq_decide, hread0, hreadk, read_cons0, read_consk, astore_h0, astore_hk, hget0, hgetk, hset0, hsetk, hlen, hcat, Nat.add_assoc, Nat.add_zero, Nat.zero_add, List.length_append, and_true, true_and, AV.flat, hvo2, one_solid hvo2, one_cells hvo2, hwo, one_solid hwo, one_cells hwo, hpo, one_solid hpo, one_cells hpo, *, -hK, -hXm, -hXp, -hwl, -hinv, -hvl, -ov3, -ov4, -ow, -k4, -hl3, -back2, -hll, -hJ4, -hze, -hxP] | with_reducible refine IfB_dec (fun h => ?_) (fun h => ?_) | with_reducible refine Guard_dec (fun h => ?_) (fun h => ?_) | with_reducible refine Guard_ndec (fun h => ?_) (fun h => ?_) | with_reducible refine Guard_not (fun h => ?_) (fun h => ?_) | with_reducible refine IfB_ndec (fun h => ?_) (fun h => ?_) | with_reducible refine IfB_not (fun h => ?_) (fun h => ?_) | with_reducible refine Guard_split (fun h => ?_) (fun h => ?_) | with_reducible refine IfB_split (fun h => ?_) (fun h => ?_))
        refine append1_enc (E := puE) (x := x) ow rfl se31 az47 td47 tk31 rfl rfl (by decide) (by show (_ + 1) * 99 ≤ _; omega) hJ4 ?_
        intro v5 H5 o5 k5 hn5
        have hv5 := o5.one
        repeat' (first | simp only [go_sem, Nat.reduceLT, Nat.reduceEqDiff, Nat.reduceAdd, Nat.reduceMul, Nat.reduceSub, Nat.reduceLeDiff, Int.reduceToNat, Int.reduceNeg, Int.reduceLT, Int.reduceLE, Int.reduceEq, reduceCtorEq, Int.natCast_zero, Int.natCast_one, Int.cast_ofNat_Int, Bool.not_not, false_eq_decide, true_eq_decide, hread0, hreadk, read_cons0, read_consk, astore_h0, astore_hk, hget0, hgetk, hset0, hsetk, hlen, hcat, Nat.add_assoc, Nat.add_zero, Nat.zero_add, List.length_append, and_true, true_and, AV.flat, hvo2, one_solid hvo2, one_cells hvo2, hwo, one_solid hwo, one_cells hwo, hv5, one_solid hv5, one_cells hv5, hpo, one_solid hpo, one_cells hpo, *, -hK, -hXm, -hXp, -hwl, -hinv, -hvl, -ov3, -ov4, -ow, -k4, -hl3, -back2, -hll, -hJ4, -hze, -hxP, -o5, -k5, -hn5] | with_reducible refine IfB_dec (fun h => ?_) (fun h => ?_) | with_reducible refine Guard_dec (fun h => ?_) (fun h => ?_) | with_reducible refine Guard_ndec (fun h => ?_) (fun h => ?_) | with_reducible refine Guard_not (fun h => ?_) (fun h => ?_) | with_reducible refine IfB_ndec (fun h => ?_) (fun h => ?_) | with_reducible refine IfB_not (fun h => ?_) (fun h => ?_) | with_reducible refine Guard_split (fun h => ?_) (fun h => ?_) | with_reducible refine IfB_split (fun h => ?_) (fun h => ?_))
        exact back2 _ _ _ (by repeat (first | exact hBf3 | refine hB0 _ _ _ (by decide) ?_)) (by simp only [go_sem, Nat.reduceLT, Nat.reduceEqDiff, Nat.reduceAdd, Nat.reduceMul, Nat.reduceSub, Nat.reduceLeDiff, Int.reduceToNat, Int.reduceNeg, Int.reduceLT, Int.reduceLE, Int.reduceEq, reduceCtorEq]) rfl (by simp only [go_sem, Nat.reduceLT, Nat.reduceEqDiff, Nat.reduceAdd, Nat.reduceMul, Nat.reduceSub, Nat.reduceLeDiff, Int.reduceToNat, Int.reduceNeg, Int.reduceLT, Int.reduceLE, Int.reduceEq, reduceCtorEq]; exact o5) (k4.via k5 (fun b hb => ow.ge hb)) (by repeat (first | exact hAf3 | refine hA0 _ _ _ (by decide) ?_))
    have i6 : ¬ (q : Int) < hw'.length := by omega
    have hqe : q = hw'.length := by omega
    rw [hqe, List.take_length] at ow
    have hll : (leftL hw' P).length ≤ hw'.length := List.length_filter_le _ _
    have hlp : ∀ p ∈ leftL hw' P, hasP X p := fun p hp => by
      unfold leftL at hp
      rw [List.mem_filter] at hp
      exact hXp p hp.1 (by simpa using hp.2)
    have gt4 := k4.get gt3 (by simp)
    have ow4 : OwnE puE (H.length + 1) J4 w (leftL hw' P) := ow.mono hl3
    have hJ4 : H.length + 1 ≤ J4.length := by have := k4.len; omega
    clear ow k4 gt3 ov3 ov4 hXp hR2 hinv hqe
    generalize leftL hw' P = lf at *
    repeat' (first | simp only [go_sem, Nat.reduceLT, Nat.reduceEqDiff, Nat.reduceAdd, Nat.reduceMul, Nat.reduceSub, Nat.reduceLeDiff, Int.reduceToNat, Int.reduceNeg, Int.reduceLT, Int.reduceLE, Int.reduceEq, reduceCtorEq, Int.natCast_zero, Int.natCast_one, Int.cast_ofNat_Int, Bool.not_not, false_eq_decide, true_eq_decide, hread0, hreadk, read_cons0, read_consk, astore_h0, astore_hk, hget0, hgetk, hset0, hsetk, hlen, hcat, Nat.add_assoc, Nat.add_zero, Nat.zero_add, List.length_append, and_true, true_and, AV.flat, hvo2, one_solid hvo2, one_cells hvo2, hwo, one_solid hwo, one_cells hwo, hpo, one_solid hpo, one_cells hpo, *, -hK, -hXm, -hwl, -hvl, -hl3, -back, -hll, -hlp, -gt4, -ow4, -hJ4, -hlq] | with_reducible refine IfB_dec (fun h => ?_) (fun h => ?_) | with_reducible refine Guard_dec (fun h => ?_) (fun h => ?_) | with_reducible refine Guard_ndec (fun h => ?_) (fun h => ?_) | with_reducible refine Guard_not (fun h => ?_) (fun h => ?_) | with_reducible refine IfB_ndec (fun h => ?_) (fun h => ?_) | with_reducible refine IfB_not (fun h => ?_) (fun h => ?_) | with_reducible refine Guard_split (fun h => ?_) (fun h => ?_) | with_reducible refine IfB_split (fun h => ?_) (fun h => ?_))
    have o1 := s1
    have o5 := s5
    have o6 := s6
    have o9 := s9
    clear hg hs hA s1 s5 s6 s8 s9 s12
    refine WX_loopS [1, 5, 6, 8, 9] (fun k fr' J5 => ∃ (z : Nat), k = lf.length - z ∧ z ≤ lf.length ∧ fr'.get 18 = .int .i64 z ∧ J5 = J4 ∧ A fr') lf.length ⟨0, rfl, by omega, by simp only [go_sem, Nat.reduceLT, Nat.reduceEqDiff, Nat.reduceAdd, Nat.reduceMul, Nat.reduceSub, Nat.reduceLeDiff, Int.reduceToNat, Int.reduceNeg, Int.reduceLT, Int.reduceLE, Int.reduceEq, reduceCtorEq]; rfl, rfl, by repeat (first | exact hAf | refine hA0 _ _ _ (by decide) ?_)⟩ ?_
    rintro k fr' J5 A3 R3 hA hs hg hR3 ⟨z, rfl, hz, f18, rfl, hAf3⟩
    have s1 := hg 1 (by decide)
    have s5 := hg 5 (by decide)
    have s6 := hg 6 (by decide)
    have s8 := hg 8 (by decide)
    have s9 := hg 9 (by decide)
    simp only [Fr.get_put, Fr.get_init, List.getD_cons_zero, List.getD_cons_succ, Nat.reduceEqDiff, if_true, if_false] at s1 s5 s6 s8 s9
    rw [o1] at s1
    rw [o5] at s5
    rw [o6] at s6
    rw [o9] at s9
    clear o1 o5 o6 o9
    refine wx_sound hT _ ?_
    have e0 := ow4.alen (by decide) tk31
    by_cases hlz : z < lf.length
    rotate_left
    · have i8 : ¬ (z : Int) < lf.length := by omega
      repeat' (first | simp only [go_sem, Nat.reduceLT, Nat.reduceEqDiff, Nat.reduceAdd, Nat.reduceMul, Nat.reduceSub, Nat.reduceLeDiff, Int.reduceToNat, Int.reduceNeg, Int.reduceLT, Int.reduceLE, Int.reduceEq, reduceCtorEq, Int.natCast_zero, Int.natCast_one, Int.cast_ofNat_Int, Bool.not_not, false_eq_decide, true_eq_decide, hread0, hreadk, read_cons0, read_consk, astore_h0, astore_hk, hget0, hgetk, hset0, hsetk, hlen, hcat, Nat.add_assoc, Nat.add_zero, Nat.zero_add, List.length_append, and_true, true_and, AV.flat, hwo, one_solid hwo, one_cells hwo, *, -hK, -hXm, -hwl, -hvl, -hl3, -back, -hll, -hlp, -gt4, -ow4, -hJ4, -hlz] | with_reducible refine IfB_dec (fun h => ?_) (fun h => ?_) | with_reducible refine Guard_dec (fun h => ?_) (fun h => ?_) | with_reducible refine Guard_ndec (fun h => ?_) (fun h => ?_) | with_reducible refine Guard_not (fun h => ?_) (fun h => ?_) | with_reducible refine IfB_ndec (fun h => ?_) (fun h => ?_) | with_reducible refine IfB_not (fun h => ?_) (fun h => ?_) | with_reducible refine Guard_split (fun h => ?_) (fun h => ?_) | with_reducible refine IfB_split (fun h => ?_) (fun h => ?_))
      exact back _ _ X lf w (by repeat (first | exact hAf3 | refine hA0 _ _ _ (by decide) ?_)) (by simp only [go_sem, Nat.reduceLT, Nat.reduceEqDiff, Nat.reduceAdd, Nat.reduceMul, Nat.reduceSub, Nat.reduceLeDiff, Int.reduceToNat, Int.reduceNeg, Int.reduceLT, Int.reduceLE, Int.reduceEq, reduceCtorEq]) (by simp only [go_sem, Nat.reduceLT, Nat.reduceEqDiff, Nat.reduceAdd, Nat.reduceMul, Nat.reduceSub, Nat.reduceLeDiff, Int.reduceToNat, Int.reduceNeg, Int.reduceLT, Int.reduceLE, Int.reduceEq, reduceCtorEq]; exact s8) gt4 ow4 hXm hlp (by omega) hJ4
    have i8 : (z : Int) < lf.length := by omega
    have e9 := inc_id hlz (by omega)
    obtain ⟨pb, po, e1, e2, -⟩ := ow4.at_ (by decide) se31 hlz (k := .i64) rfl
    rw [show puE.sz = 3 from rfl, puE_cells] at e2
    obtain ⟨c, hc, hcl2, hin⟩ := hlp _ (List.getElem_mem hlz)
    have hs2 := fun J => has_spec X c ⟨lf[z].ten, lf[z].key⟩ hcl2 (by have := (hXm.2.2 _ (List.getElem_mem hcl2)).1.2; omega) J
    rw [decide_eq_true hin] at hs2
    clear hin hlp
    generalize lf[z] = y at *
    obtain ⟨yc, yt, yk⟩ := y
    simp only at hc e2 hs2
    subst hc
    have e20 := read_sub e2 0 1 (by omega)
    have e21 := read_sub e2 1 2 (by omega)
    simp only [Nat.add_zero, List.drop_zero, List.take_succ_cons, List.take_zero, List.drop_succ_cons] at e20 e21
    unfold trAv Nm.av at hs2
    repeat' (first | simp only [go_sem, Nat.reduceLT, Nat.reduceEqDiff, Nat.reduceAdd, Nat.reduceMul, Nat.reduceSub, Nat.reduceLeDiff, Int.reduceToNat, Int.reduceNeg, Int.reduceLT, Int.reduceLE, Int.reduceEq, reduceCtorEq, Int.natCast_zero, Int.natCast_one, Int.cast_ofNat_Int, Bool.not_not, false_eq_decide, true_eq_decide, hread0, hreadk, read_cons0, read_consk, astore_h0, astore_hk, hget0, hgetk, hset0, hsetk, hlen, hcat, Nat.add_assoc, Nat.add_zero, Nat.zero_add, List.length_append, and_true, true_and, AV.flat, gt4, get_app gt4, read_get gt4, read_app gt4, hwo, one_solid hwo, one_cells hwo, *, -hK, -hXm, -hwl, -hvl, -hl3, -back, -hll, -gt4, -ow4, -hJ4, -hs2, -e2] | with_reducible refine IfB_dec (fun h => ?_) (fun h => ?_) | with_reducible refine Guard_dec (fun h => ?_) (fun h => ?_) | with_reducible refine Guard_ndec (fun h => ?_) (fun h => ?_) | with_reducible refine Guard_not (fun h => ?_) (fun h => ?_) | with_reducible refine IfB_ndec (fun h => ?_) (fun h => ?_) | with_reducible refine IfB_not (fun h => ?_) (fun h => ?_) | with_reducible refine Guard_split (fun h => ?_) (fun h => ?_) | with_reducible refine IfB_split (fun h => ?_) (fun h => ?_))
    refine WX_rows hT hmix [(0, none), (1, none), (2, none), (3, none), (4, none), (5, none), (6, none), (7, none), (8, none), (9, none), (10, none), (11, some [true, true, true, true, true, true, true, true, true, true, true]), (12, none)] (by kernel_rfl) ?_
    repeat' (first | simp only [go_sem, Nat.reduceLT, Nat.reduceEqDiff, Nat.reduceAdd, Nat.reduceMul, Nat.reduceSub, Nat.reduceLeDiff, Int.reduceToNat, Int.reduceNeg, Int.reduceLT, Int.reduceLE, Int.reduceEq, reduceCtorEq, Int.natCast_zero, Int.natCast_one, Int.cast_ofNat_Int, Bool.not_not, false_eq_decide, true_eq_decide, hread0, hreadk, read_cons0, read_consk, astore_h0, astore_hk, hget0, hgetk, hset0, hsetk, hlen, hcat, Nat.add_assoc, Nat.add_zero, Nat.zero_add, List.length_append, and_true, true_and, AV.flat, gt4, get_app gt4, read_get gt4, read_app gt4, hwo, one_solid hwo, one_cells hwo, *, -hK, -hXm, -hwl, -hvl, -hl3, -back, -hll, -gt4, -ow4, -hJ4, -hs2, -e2] | refine WC.call (hs2 _) ?_ | with_reducible refine IfB_dec (fun h => ?_) (fun h => ?_) | with_reducible refine Guard_dec (fun h => ?_) (fun h => ?_) | with_reducible refine Guard_ndec (fun h => ?_) (fun h => ?_) | with_reducible refine Guard_not (fun h => ?_) (fun h => ?_) | with_reducible refine IfB_ndec (fun h => ?_) (fun h => ?_) | with_reducible refine IfB_not (fun h => ?_) (fun h => ?_) | with_reducible refine Guard_split (fun h => ?_) (fun h => ?_) | with_reducible refine IfB_split (fun h => ?_) (fun h => ?_))
    exact hR3 _ _ (by (repeat (first | exact hs | refine hA _ _ _ (by decide) ?_))) (lf.length - (z + 1)) (by omega) ⟨z + 1, rfl, by omega, by simp only [go_sem, Nat.reduceLT, Nat.reduceEqDiff, Nat.reduceAdd, Nat.reduceMul, Nat.reduceSub, Nat.reduceLeDiff, Int.reduceToNat, Int.reduceNeg, Int.reduceLT, Int.reduceLE, Int.reduceEq, reduceCtorEq], rfl, by repeat (first | exact hAf3 | refine hA0 _ _ _ (by decide) ?_)⟩
  rw [eR] at cg
  rw [ho] at e5
  simp only at cg
  have hXm : trMay (ts.set j (readT j ts[j] ⟨at_, ay⟩).1) := trMay_set hm _ (readT_may hmj ho hmn j).1
  have hXp : ∀ p ∈ hv ++ [pushN j ⟨at_, ay⟩], p ∉ (readT j ts[j] ⟨at_, ay⟩).2 → hasP (ts.set j (readT j ts[j] ⟨at_, ay⟩).1) p := fun p hp hno => by
    rcases List.mem_append.1 hp with hp | hp
    · exact hasP_read hm hj (.inl (hinv p hp)) hno
    · exact hasP_read hm hj (.inr (List.mem_singleton.1 hp)) hno
  have hP1 : (readT j ts[j] ⟨at_, ay⟩).2.length ≤ 1 := by
    unfold readT; split
    · simp
    · rw [List.length_map, List.length_take]; omega
  generalize (readT j ts[j] ⟨at_, ay⟩).2 = P at *
  generalize (readT j ts[j] ⟨at_, ay⟩).1 = rt at *
  generalize hXX : ts.set j rt = X at *
  have gk2 := hkey [.int .u8 ak, .int .i64 (j : Int), .int .i64 at_, .str ay, chgE.lst ach] [tkE.lst X]
  repeat' (first | simp only [go_sem, Nat.reduceLT, Nat.reduceEqDiff, Nat.reduceAdd, Nat.reduceMul, Nat.reduceSub, Nat.reduceLeDiff, Int.reduceToNat, Int.reduceNeg, Int.reduceLT, Int.reduceLE, Int.reduceEq, reduceCtorEq, Int.natCast_zero, Int.natCast_one, Int.cast_ofNat_Int, Bool.not_not, false_eq_decide, true_eq_decide, hread0, hreadk, read_cons0, read_consk, astore_h0, astore_hk, hget0, hgetk, hset0, hsetk, hlen, hcat, Nat.add_assoc, Nat.add_zero, Nat.zero_add, List.length_append, and_true, true_and, AV.flat, gk, get_app gk, read_get gk, read_app gk, gk2, get_app gk2, read_get gk2, read_app gk2, hvo, one_solid hvo, one_cells hvo, *, -hK, -gt, -ov, -hm, -hinv, -hvl, -hJ, -hk1, -hco, -back, -hts, -ht8, -hkey, -cg, -gk, -hXm, -hXp, -hmj, -ho, -gk2, -hXX, -hP1, -hmn] | refine WC.call (cg _) ?_ | with_reducible refine IfB_dec (fun h => ?_) (fun h => ?_) | with_reducible refine Guard_dec (fun h => ?_) (fun h => ?_) | with_reducible refine Guard_ndec (fun h => ?_) (fun h => ?_) | with_reducible refine Guard_not (fun h => ?_) (fun h => ?_) | with_reducible refine IfB_ndec (fun h => ?_) (fun h => ?_) | with_reducible refine IfB_not (fun h => ?_) (fun h => ?_) | with_reducible refine Guard_split (fun h => ?_) (fun h => ?_) | with_reducible refine IfB_split (fun h => ?_) (fun h => ?_))
  refine append_enc (E := puE) (m := H.length + 1) (ys := [pushN j ⟨at_, ay⟩]) (ov.keep0 (Keep.app none _ _)) se31 az47 td47 (by rw [Enc.row_one]; exact asrc_sl tk31 (Vs.sl (vs_at (st := .full) (by rw [List.getElem?_append_right (by simp)]; simp; exact ⟨rfl, rfl⟩) rfl rfl))) (by decide) (by show (hv.length + 1) * 99 ≤ _; omega) (by simp; omega) ?_
  intro v2 G2 ov2 k2 hn2
  have hv2 := ov2.one
  have gt2 := k2.get (get_app gt [(⟨[.int .u8 ak, .int .i64 (j : Int), .int .i64 at_, .str ay, chgE.lst ach], 0, .full⟩ : Blk), (⟨[tkE.lst X], 0, .full⟩ : Blk), (⟨[.int .i64 (j : Int), .int .i64 at_, .str ay], 3, .full⟩ : Blk)]) (fun e => by have := ov.ge e; omega)
  have gx2 := k2.get (b := J.length + 1) (B := ⟨[tkE.lst X], 0, .full⟩) (by rw [hgetk]; rfl) (fun e => by have := ov.lt e; omega)
  have hJl : J.length + 2 ≤ G2.length := by have := k2.len; simp at this; omega
  repeat' (first | simp only [go_sem, Nat.reduceLT, Nat.reduceEqDiff, Nat.reduceAdd, Nat.reduceMul, Nat.reduceSub, Nat.reduceLeDiff, Int.reduceToNat, Int.reduceNeg, Int.reduceLT, Int.reduceLE, Int.reduceEq, reduceCtorEq, Int.natCast_zero, Int.natCast_one, Int.cast_ofNat_Int, Bool.not_not, false_eq_decide, true_eq_decide, hread0, hreadk, read_cons0, read_consk, astore_h0, astore_hk, hget0, hgetk, hset0, hsetk, hlen, hcat, Nat.add_assoc, Nat.add_zero, Nat.zero_add, List.length_append, and_true, true_and, AV.flat, gx2, get_app gx2, read_get gx2, read_app gx2, hvo, one_solid hvo, one_cells hvo, hv2, one_solid hv2, one_cells hv2, *, -hK, -gt, -ov, -hm, -hinv, -hvl, -hJ, -hk1, -hco, -back, -hts, -ht8, -hkey, -cg, -gk, -hXm, -hXp, -hmj, -ho, -gk2, -hXX, -hP1, -hmn, -ov2, -k2, -hn2, -gt2, -hJl] | with_reducible refine IfB_dec (fun h => ?_) (fun h => ?_) | with_reducible refine Guard_dec (fun h => ?_) (fun h => ?_) | with_reducible refine Guard_ndec (fun h => ?_) (fun h => ?_) | with_reducible refine Guard_not (fun h => ?_) (fun h => ?_) | with_reducible refine IfB_ndec (fun h => ?_) (fun h => ?_) | with_reducible refine IfB_not (fun h => ?_) (fun h => ?_) | with_reducible refine Guard_split (fun h => ?_) (fun h => ?_) | with_reducible refine IfB_split (fun h => ?_) (fun h => ?_))
  have hPV : PV (puE.lst P) P := .inl rfl
  have hwl : (hv ++ [pushN j ⟨at_, ay⟩]).length ≤ i + 1 := by rw [List.length_append, List.length_cons, List.length_nil]; omega
  generalize hv ++ [pushN j ⟨at_, ay⟩] = hv2' at *
  have hPl : P.length ≤ 128 := by omega
  clear hkey cg e1 hk1 hco hcl gk gk2 gt ov hmj k2 hn2 hvo e5 hXX hP1
  have hvo := hv2
  have gt3 : (List.set G2 H.length ⟨[tkE.lst X], 0, .full⟩ : Heap)[H.length]? = some ⟨[tkE.lst X], 0, .full⟩ := List.getElem?_set_self (by omega)
  have ov3 : OwnE puE (H.length + 1) (List.set G2 H.length ⟨[tkE.lst X], 0, .full⟩ : Heap) v2 hv2' := ov2.keep (Keep.of_set rfl) (fun b hb e => by cases hb; have := ov2.ge e; omega)
  have hl3 : H.length + 1 ≤ (List.set G2 H.length ⟨[tkE.lst X], 0, .full⟩ : Heap).length := by simp; omega
  repeat' (first | simp only [go_sem, Nat.reduceLT, Nat.reduceEqDiff, Nat.reduceAdd, Nat.reduceMul, Nat.reduceSub, Nat.reduceLeDiff, Int.reduceToNat, Int.reduceNeg, Int.reduceLT, Int.reduceLE, Int.reduceEq, reduceCtorEq, Int.natCast_zero, Int.natCast_one, Int.cast_ofNat_Int, Bool.not_not, false_eq_decide, true_eq_decide, hread0, hreadk, read_cons0, read_consk, astore_h0, astore_hk, hget0, hgetk, hset0, hsetk, hlen, hcat, Nat.add_assoc, Nat.add_zero, Nat.zero_add, List.length_append, and_true, true_and, AV.flat, gx2, get_app gx2, read_get gx2, read_app gx2, gt2, get_app gt2, read_get gt2, read_app gt2, astore_get gt2, astore_app gt2, get_set gt2, get_set_app gt2, read_set gt2, read_set_app gt2, astore_set gt2, astore_set_app gt2, List.set_set, hget0s, hgetks, hread0s, hreadks, List.length_set, hvo, one_solid hvo, one_cells hvo, *, -hK, -hXm, -hXp, -hwl, -ov2, -hinv, -hvl, -ov3, -gt3, -hl3, -back, -hPl] | with_reducible refine IfB_dec (fun h => ?_) (fun h => ?_) | with_reducible refine Guard_dec (fun h => ?_) (fun h => ?_) | with_reducible refine Guard_ndec (fun h => ?_) (fun h => ?_) | with_reducible refine Guard_not (fun h => ?_) (fun h => ?_) | with_reducible refine IfB_ndec (fun h => ?_) (fun h => ?_) | with_reducible refine IfB_not (fun h => ?_) (fun h => ?_) | with_reducible refine Guard_split (fun h => ?_) (fun h => ?_) | with_reducible refine IfB_split (fun h => ?_) (fun h => ?_))
  generalize (List.set G2 H.length ⟨[tkE.lst X], 0, .full⟩ : Heap) = G3 at *
  clear gx2 gt2 ov2
  have hpl := hPV.len
  have hpo := hPV.one
  have o1 := s1
  have o5 := s5
  have o6 := s6
  have hA0 := hA
  generalize hw : hv2' = hw' at *
  generalize hvv : v2 = v' at *
  have hvo2 := ov3.one
  refine WX_loopS [1, 5, 6, 8, 9, 12] (fun k fr' J4 => ∃ (q : Nat) (w : AV), k = hw'.length - q ∧ q ≤ hw'.length ∧ fr'.get 15 = .int .i64 q ∧ fr'.get 14 = w ∧ OwnE puE G3.length J4 w (leftL (hw'.take q) P) ∧ Keep none G3 J4 ∧ A fr') hw'.length ⟨0, .nils, rfl, by omega, by simp only [go_sem, Nat.reduceLT, Nat.reduceEqDiff, Nat.reduceAdd, Nat.reduceMul, Nat.reduceSub, Nat.reduceLeDiff, Int.reduceToNat, Int.reduceNeg, Int.reduceLT, Int.reduceLE, Int.reduceEq, reduceCtorEq]; rfl, by simp only [go_sem, Nat.reduceLT, Nat.reduceEqDiff, Nat.reduceAdd, Nat.reduceMul, Nat.reduceSub, Nat.reduceLeDiff, Int.reduceToNat, Int.reduceNeg, Int.reduceLT, Int.reduceLE, Int.reduceEq, reduceCtorEq], OwnE.nils _ _ _, Keep.refl _ _, by (repeat (first | exact hs | refine hA _ _ _ (by decide) ?_))⟩ ?_
  clear hg hs hA s1 s5 s6
  rintro k fr' J4 A2 R2 hA hs hg hR2 ⟨q, w, rfl, hq, f15, f14, ow, k4, hAf⟩
  have s1 := hg 1 (by decide)
  have s5 := hg 5 (by decide)
  have s6 := hg 6 (by decide)
  have s8 := hg 8 (by decide)
  have s9 := hg 9 (by decide)
  have s12 := hg 12 (by decide)
  simp only [Fr.get_put, Fr.get_init, List.getD_cons_zero, List.getD_cons_succ, Nat.reduceEqDiff, if_true, if_false] at s1 s5 s6 s8 s9 s12
  rw [o1] at s1
  rw [o5] at s5
  rw [o6] at s6
  clear o1 o5 o6
  refine wx_sound hT _ ?_
  have hwo := ow.one
  have ov4 := ov3.keep0 k4
  have e0 := ov4.alen (by decide) tk31
  by_cases hlq : q < hw'.length
  · have i6 : (q : Int) < hw'.length := by omega
    have e7 := inc_id hlq (by omega)
    obtain ⟨pb, po, e1, e2, -⟩ := ov4.at_ (by decide) se31 hlq (k := .i64) rfl
    rw [show puE.sz = 3 from rfl, puE_cells] at e2
    have hls := leftL_step (P := P) hlq
    have hll : (leftL (hw'.take q) P).length ≤ q := by
      have := List.length_filter_le (fun p => !decide (p ∈ P)) (hw'.take q)
      rw [List.length_take] at this; unfold leftL; omega
    have hJ4 : G3.length ≤ J4.length := k4.len
    have back2 : ∀ fr2 J5 w2, A2 fr2 → fr2.get 15 = .int .i64 ((q + 1 : Nat) : Int) → fr2.get 14 = w2 → OwnE puE G3.length J5 w2 (leftL (hw'.take (q + 1)) P) → Keep none G3 J5 → A fr2 → R2 fr2 J5 := fun fr2 J5 w2 ha j1 j2 j3 j4 j5 => hR2 fr2 J5 ha (hw'.length - (q + 1)) (by omega) ⟨q + 1, w2, rfl, by omega, j1, j2, j3, j4, j5⟩
    rw [hls] at back2
    clear hR2 hls back
    generalize hw'[q] = x at *
    repeat' (first | simp only [go_sem, Nat.reduceLT, Nat.reduceEqDiff, Nat.reduceAdd, Nat.reduceMul, Nat.reduceSub, Nat.reduceLeDiff, Int.reduceToNat, Int.reduceNeg, Int.reduceLT, Int.reduceLE, Int.reduceEq, reduceCtorEq, Int.natCast_zero, Int.natCast_one, Int.cast_ofNat_Int, Bool.not_not, false_eq_decide, true_eq_decide, hread0, hreadk, read_cons0, read_consk, astore_h0, astore_hk, hget0, hgetk, hset0, hsetk, hlen, hcat, Nat.add_assoc, Nat.add_zero, Nat.zero_add, List.length_append, and_true, true_and, AV.flat, hvo2, one_solid hvo2, one_cells hvo2, hwo, one_solid hwo, one_cells hwo, hpo, one_solid hpo, one_cells hpo, *, -hK, -hXm, -hXp, -hwl, -hinv, -hvl, -ov3, -ov4, -ow, -k4, -hl3, -back2, -hll, -hJ4, -e1, -e2] | with_reducible refine IfB_dec (fun h => ?_) (fun h => ?_) | with_reducible refine Guard_dec (fun h => ?_) (fun h => ?_) | with_reducible refine Guard_ndec (fun h => ?_) (fun h => ?_) | with_reducible refine Guard_not (fun h => ?_) (fun h => ?_) | with_reducible refine IfB_ndec (fun h => ?_) (fun h => ?_) | with_reducible refine IfB_not (fun h => ?_) (fun h => ?_) | with_reducible refine Guard_split (fun h => ?_) (fun h => ?_) | with_reducible refine IfB_split (fun h => ?_) (fun h => ?_))
    have o1 := s1
    have o5 := s5
    have o6 := s6
    have o8 := s8
    have o9 := s9
    have o12 := s12
    have hB0 := hA
    refine WX_loopS [1, 5, 6, 8, 9, 12, 14, 15] (fun k fr' J5 => ∃ (z : Nat), k = P.length - z ∧ z ≤ P.length ∧ fr'.get 17 = .int .i64 z ∧ fr'.get 16 = .bool (decide (x ∈ P.take z)) ∧ J5 = J4 ∧ A fr' ∧ A2 fr') P.length ⟨0, rfl, by omega, by simp only [go_sem, Nat.reduceLT, Nat.reduceEqDiff, Nat.reduceAdd, Nat.reduceMul, Nat.reduceSub, Nat.reduceLeDiff, Int.reduceToNat, Int.reduceNeg, Int.reduceLT, Int.reduceLE, Int.reduceEq, reduceCtorEq]; rfl, by simp only [go_sem, Nat.reduceLT, Nat.reduceEqDiff, Nat.reduceAdd, Nat.reduceMul, Nat.reduceSub, Nat.reduceLeDiff, Int.reduceToNat, Int.reduceNeg, Int.reduceLT, Int.reduceLE, Int.reduceEq, reduceCtorEq]; simp, rfl, by repeat (first | exact hAf | refine hA0 _ _ _ (by decide) ?_), by (repeat (first | exact hs | refine hA _ _ _ (by decide) ?_))⟩ ?_
    clear hg hs hA s1 s5 s6 s8 s9 s12
    rintro k fr' J5 A3 R3 hA hs hg hR3 ⟨z, rfl, hz, f17, f16, rfl, hAf3, hBf3⟩
    have s1 := hg 1 (by decide)
    have s5 := hg 5 (by decide)
    have s6 := hg 6 (by decide)
    have s8 := hg 8 (by decide)
    have s9 := hg 9 (by decide)
    have s12 := hg 12 (by decide)
    have s14 := hg 14 (by decide)
    have s15 := hg 15 (by decide)
    simp only [Fr.get_put, Fr.get_init, List.getD_cons_zero, List.getD_cons_succ, Nat.reduceEqDiff, if_true, if_false] at s1 s5 s6 s8 s9 s12 s14 s15
    rw [o1] at s1
    rw [o5] at s5
    rw [o6] at s6
    rw [o8] at s8
    rw [o9] at s9
    rw [o12] at s12
    rw [f14] at s14
    rw [f15] at s15
    clear o1 o5 o6 o8 o9 o12 f14 f15
    refine wx_sound hT _ ?_
    by_cases hlz : z < P.length
    · have i8 : (z : Int) < P.length := by omega
      have e8 := hPV.at_ hlz
      rw [puE_cells] at e8
      have e9 := inc_id hlz (by omega)
      have hms := memP_step hlz x
      have back3 : ∀ fr2 J6, A3 fr2 → fr2.get 17 = .int .i64 ((z + 1 : Nat) : Int) → fr2.get 16 = .bool (decide (x ∈ P.take z) || decide (P[z] = x)) → J6 = J5 → A fr2 → A2 fr2 → R3 fr2 J6 := fun fr2 J6 ha j1 j2 j3 j4 j5 => hR3 fr2 J6 ha (P.length - (z + 1)) (by omega) ⟨z + 1, rfl, by omega, j1, by rw [hms]; exact j2, j3, j4, j5⟩
      clear hR3 hms back2
      generalize P[z] = y at *
      generalize decide (x ∈ P.take z) = td at *
      obtain ⟨xc, xt, xk⟩ := x
      obtain ⟨yc, yt, yk⟩ := y
      simp only at e2 e8
      cases td with
      | true =>
        rw [Bool.true_or] at back3
        repeat' (first | simp only [go_sem, Nat.reduceLT, Nat.reduceEqDiff, Nat.reduceAdd, Nat.reduceMul, Nat.reduceSub, Nat.reduceLeDiff, Int.reduceToNat, Int.reduceNeg, Int.reduceLT, Int.reduceLE, Int.reduceEq, reduceCtorEq, Int.natCast_zero, Int.natCast_one, Int.cast_ofNat_Int, Bool.not_not, false_eq_decide, true_eq_decide, hread0, hreadk, read_cons0, read_consk, astore_h0, astore_hk, hget0, hgetk, hset0, hsetk, hlen, hcat, Nat.add_assoc, Nat.add_zero, Nat.zero_add, List.length_append, and_true, true_and, AV.flat, hvo2, one_solid hvo2, one_cells hvo2, hwo, one_solid hwo, one_cells hwo, hpo, one_solid hpo, one_cells hpo, *, -hK, -hXm, -hXp, -hwl, -hinv, -hvl, -ov3, -ov4, -ow, -k4, -hl3, -back3, -hll, -hJ4] | with_reducible refine IfB_dec (fun h => ?_) (fun h => ?_) | with_reducible refine Guard_dec (fun h => ?_) (fun h => ?_) | with_reducible refine Guard_ndec (fun h => ?_) (fun h => ?_) | with_reducible refine Guard_not (fun h => ?_) (fun h => ?_) | with_reducible refine IfB_ndec (fun h => ?_) (fun h => ?_) | with_reducible refine IfB_not (fun h => ?_) (fun h => ?_) | with_reducible refine Guard_split (fun h => ?_) (fun h => ?_) | with_reducible refine IfB_split (fun h => ?_) (fun h => ?_))
        refine WX_rows hT hmix [(0, none), (1, none), (2, none), (3, none), (4, none), (5, none), (6, none), (7, none), (8, none), (9, none), (10, none), (11, none), (12, none)] (by kernel_rfl) ?_
        repeat' (first | simp only [go_sem, Nat.reduceLT, Nat.reduceEqDiff, Nat.reduceAdd, Nat.reduceMul, Nat.reduceSub, Nat.reduceLeDiff, Int.reduceToNat, Int.reduceNeg, Int.reduceLT, Int.reduceLE, Int.reduceEq, reduceCtorEq, Int.natCast_zero, Int.natCast_one, Int.cast_ofNat_Int, Bool.not_not, false_eq_decide, true_eq_decide, hread0, hreadk, read_cons0, read_consk, astore_h0, astore_hk, hget0, hgetk, hset0, hsetk, hlen, hcat, Nat.add_assoc, Nat.add_zero, Nat.zero_add, List.length_append, and_true, true_and, AV.flat, hvo2, one_solid hvo2, one_cells hvo2, hwo, one_solid hwo, one_cells hwo, hpo, one_solid hpo, one_cells hpo, *, -hK, -hXm, -hXp, -hwl, -hinv, -hvl, -ov3, -ov4, -ow, -k4, -hl3, -back3, -hll, -hJ4] | with_reducible refine IfB_dec (fun h => ?_) (fun h => ?_) | with_reducible refine Guard_dec (fun h => ?_) (fun h => ?_) | with_reducible refine Guard_ndec (fun h => ?_) (fun h => ?_) | with_reducible refine Guard_not (fun h => ?_) (fun h => ?_) | with_reducible refine IfB_ndec (fun h => ?_) (fun h => ?_) | with_reducible refine IfB_not (fun h => ?_) (fun h => ?_) | with_reducible refine Guard_split (fun h => ?_) (fun h => ?_) | with_reducible refine IfB_split (fun h => ?_) (fun h => ?_))
        exact back3 _ _ (by (repeat (first | exact hs | refine hA _ _ _ (by decide) ?_))) (by simp only [go_sem, Nat.reduceLT, Nat.reduceEqDiff, Nat.reduceAdd, Nat.reduceMul, Nat.reduceSub, Nat.reduceLeDiff, Int.reduceToNat, Int.reduceNeg, Int.reduceLT, Int.reduceLE, Int.reduceEq, reduceCtorEq]) (by simp only [go_sem, Nat.reduceLT, Nat.reduceEqDiff, Nat.reduceAdd, Nat.reduceMul, Nat.reduceSub, Nat.reduceLeDiff, Int.reduceToNat, Int.reduceNeg, Int.reduceLT, Int.reduceLE, Int.reduceEq, reduceCtorEq]) rfl (by repeat (first | exact hAf3 | refine hA0 _ _ _ (by decide) ?_)) (by repeat (first | exact hBf3 | refine hB0 _ _ _ (by decide) ?_))
      | false =>
        rw [Bool.false_or] at back3
        by_cases h1 : yc = xc
        · by_cases h2 : yt = xt
          · by_cases h3 : yk = xk
            · subst h1 h2 h3
              rw [decide_eq_true rfl] at back3
              repeat' (first | simp only [go_sem, Nat.reduceLT, Nat.reduceEqDiff, Nat.reduceAdd, Nat.reduceMul, Nat.reduceSub, Nat.reduceLeDiff, Int.reduceToNat, Int.reduceNeg, Int.reduceLT, Int.reduceLE, Int.reduceEq, reduceCtorEq, Int.natCast_zero, Int.natCast_one, Int.cast_ofNat_Int, Bool.not_not, false_eq_decide, true_eq_decide, hread0, hreadk, read_cons0, read_consk, astore_h0, astore_hk, hget0, hgetk, hset0, hsetk, hlen, hcat, Nat.add_assoc, Nat.add_zero, Nat.zero_add, List.length_append, and_true, true_and, AV.flat, hvo2, one_solid hvo2, one_cells hvo2, hwo, one_solid hwo, one_cells hwo, hpo, one_solid hpo, one_cells hpo, *, -hK, -hXm, -hXp, -hwl, -hinv, -hvl, -ov3, -ov4, -ow, -k4, -hl3, -back3, -hll, -hJ4] | with_reducible refine IfB_dec (fun h => ?_) (fun h => ?_) | with_reducible refine Guard_dec (fun h => ?_) (fun h => ?_) | with_reducible refine Guard_ndec (fun h => ?_) (fun h => ?_) | with_reducible refine Guard_not (fun h => ?_) (fun h => ?_) | with_reducible refine IfB_ndec (fun h => ?_) (fun h => ?_) | with_reducible refine IfB_not (fun h => ?_) (fun h => ?_) | with_reducible refine Guard_split (fun h => ?_) (fun h => ?_) | with_reducible refine IfB_split (fun h => ?_) (fun h => ?_))
              refine WX_rows hT hmix [(0, none), (1, none), (2, none), (3, none), (4, none), (5, none), (6, none), (7, none), (8, none), (9, none), (10, none), (11, none), (12, none)] (by kernel_rfl) ?_
              repeat' (first | simp only [go_sem, Nat.reduceLT, Nat.reduceEqDiff, Nat.reduceAdd, Nat.reduceMul, Nat.reduceSub, Nat.reduceLeDiff, Int.reduceToNat, Int.reduceNeg, Int.reduceLT, Int.reduceLE, Int.reduceEq, reduceCtorEq, Int.natCast_zero, Int.natCast_one, Int.cast_ofNat_Int, Bool.not_not, false_eq_decide, true_eq_decide, hread0, hreadk, read_cons0, read_consk, astore_h0, astore_hk, hget0, hgetk, hset0, hsetk, hlen, hcat, Nat.add_assoc, Nat.add_zero, Nat.zero_add, List.length_append, and_true, true_and, AV.flat, hvo2, one_solid hvo2, one_cells hvo2, hwo, one_solid hwo, one_cells hwo, hpo, one_solid hpo, one_cells hpo, *, -hK, -hXm, -hXp, -hwl, -hinv, -hvl, -ov3, -ov4, -ow, -k4, -hl3, -back3, -hll, -hJ4] | with_reducible refine IfB_dec (fun h => ?_) (fun h => ?_) | with_reducible refine Guard_dec (fun h => ?_) (fun h => ?_) | with_reducible refine Guard_ndec (fun h => ?_) (fun h => ?_) | with_reducible refine Guard_not (fun h => ?_) (fun h => ?_) | with_reducible refine IfB_ndec (fun h => ?_) (fun h => ?_) | with_reducible refine IfB_not (fun h => ?_) (fun h => ?_) | with_reducible refine Guard_split (fun h => ?_) (fun h => ?_) | with_reducible refine IfB_split (fun h => ?_) (fun h => ?_))
              exact back3 _ _ (by (repeat (first | exact hs | refine hA _ _ _ (by decide) ?_))) (by simp only [go_sem, Nat.reduceLT, Nat.reduceEqDiff, Nat.reduceAdd, Nat.reduceMul, Nat.reduceSub, Nat.reduceLeDiff, Int.reduceToNat, Int.reduceNeg, Int.reduceLT, Int.reduceLE, Int.reduceEq, reduceCtorEq]) (by simp only [go_sem, Nat.reduceLT, Nat.reduceEqDiff, Nat.reduceAdd, Nat.reduceMul, Nat.reduceSub, Nat.reduceLeDiff, Int.reduceToNat, Int.reduceNeg, Int.reduceLT, Int.reduceLE, Int.reduceEq, reduceCtorEq]) rfl (by repeat (first | exact hAf3 | refine hA0 _ _ _ (by decide) ?_)) (by repeat (first | exact hBf3 | refine hB0 _ _ _ (by decide) ?_))
            · rw [show decide ((⟨yc, yt, yk⟩ : Pu) = ⟨xc, xt, xk⟩) = false by simp [h3]] at back3
              subst h1 h2
              repeat' (first | simp only [go_sem, Nat.reduceLT, Nat.reduceEqDiff, Nat.reduceAdd, Nat.reduceMul, Nat.reduceSub, Nat.reduceLeDiff, Int.reduceToNat, Int.reduceNeg, Int.reduceLT, Int.reduceLE, Int.reduceEq, reduceCtorEq, Int.natCast_zero, Int.natCast_one, Int.cast_ofNat_Int, Bool.not_not, false_eq_decide, true_eq_decide, hread0, hreadk, read_cons0, read_consk, astore_h0, astore_hk, hget0, hgetk, hset0, hsetk, hlen, hcat, Nat.add_assoc, Nat.add_zero, Nat.zero_add, List.length_append, and_true, true_and, AV.flat, hvo2, one_solid hvo2, one_cells hvo2, hwo, one_solid hwo, one_cells hwo, hpo, one_solid hpo, one_cells hpo, *, -hK, -hXm, -hXp, -hwl, -hinv, -hvl, -ov3, -ov4, -ow, -k4, -hl3, -back3, -hll, -hJ4] | with_reducible refine IfB_dec (fun h => ?_) (fun h => ?_) | with_reducible refine Guard_dec (fun h => ?_) (fun h => ?_) | with_reducible refine Guard_ndec (fun h => ?_) (fun h => ?_) | with_reducible refine Guard_not (fun h => ?_) (fun h => ?_) | with_reducible refine IfB_ndec (fun h => ?_) (fun h => ?_) | with_reducible refine IfB_not (fun h => ?_) (fun h => ?_) | with_reducible refine Guard_split (fun h => ?_) (fun h => ?_) | with_reducible refine IfB_split (fun h => ?_) (fun h => ?_))
              refine WX_rows hT hmix [(0, none), (1, none), (2, none), (3, none), (4, none), (5, none), (6, none), (7, none), (8, none), (9, none), (10, none), (11, none), (12, none)] (by kernel_rfl) ?_
              repeat' (first | simp only [go_sem, Nat.reduceLT, Nat.reduceEqDiff, Nat.reduceAdd, Nat.reduceMul, Nat.reduceSub, Nat.reduceLeDiff, Int.reduceToNat, Int.reduceNeg, Int.reduceLT, Int.reduceLE, Int.reduceEq, reduceCtorEq, Int.natCast_zero, Int.natCast_one, Int.cast_ofNat_Int, Bool.not_not, false_eq_decide, true_eq_decide, hread0, hreadk, read_cons0, read_consk, astore_h0, astore_hk, hget0, hgetk, hset0, hsetk, hlen, hcat, Nat.add_assoc, Nat.add_zero, Nat.zero_add, List.length_append, and_true, true_and, AV.flat, hvo2, one_solid hvo2, one_cells hvo2, hwo, one_solid hwo, one_cells hwo, hpo, one_solid hpo, one_cells hpo, *, -hK, -hXm, -hXp, -hwl, -hinv, -hvl, -ov3, -ov4, -ow, -k4, -hl3, -back3, -hll, -hJ4] | with_reducible refine IfB_dec (fun h => ?_) (fun h => ?_) | with_reducible refine Guard_dec (fun h => ?_) (fun h => ?_) | with_reducible refine Guard_ndec (fun h => ?_) (fun h => ?_) | with_reducible refine Guard_not (fun h => ?_) (fun h => ?_) | with_reducible refine IfB_ndec (fun h => ?_) (fun h => ?_) | with_reducible refine IfB_not (fun h => ?_) (fun h => ?_) | with_reducible refine Guard_split (fun h => ?_) (fun h => ?_) | with_reducible refine IfB_split (fun h => ?_) (fun h => ?_))
              exact back3 _ _ (by (repeat (first | exact hs | refine hA _ _ _ (by decide) ?_))) (by simp only [go_sem, Nat.reduceLT, Nat.reduceEqDiff, Nat.reduceAdd, Nat.reduceMul, Nat.reduceSub, Nat.reduceLeDiff, Int.reduceToNat, Int.reduceNeg, Int.reduceLT, Int.reduceLE, Int.reduceEq, reduceCtorEq]) (by simp only [go_sem, Nat.reduceLT, Nat.reduceEqDiff, Nat.reduceAdd, Nat.reduceMul, Nat.reduceSub, Nat.reduceLeDiff, Int.reduceToNat, Int.reduceNeg, Int.reduceLT, Int.reduceLE, Int.reduceEq, reduceCtorEq]) rfl (by repeat (first | exact hAf3 | refine hA0 _ _ _ (by decide) ?_)) (by repeat (first | exact hBf3 | refine hB0 _ _ _ (by decide) ?_))
          · rw [show decide ((⟨yc, yt, yk⟩ : Pu) = ⟨xc, xt, xk⟩) = false by simp [h2]] at back3
            subst h1
            repeat' (first | simp only [go_sem, Nat.reduceLT, Nat.reduceEqDiff, Nat.reduceAdd, Nat.reduceMul, Nat.reduceSub, Nat.reduceLeDiff, Int.reduceToNat, Int.reduceNeg, Int.reduceLT, Int.reduceLE, Int.reduceEq, reduceCtorEq, Int.natCast_zero, Int.natCast_one, Int.cast_ofNat_Int, Bool.not_not, false_eq_decide, true_eq_decide, hread0, hreadk, read_cons0, read_consk, astore_h0, astore_hk, hget0, hgetk, hset0, hsetk, hlen, hcat, Nat.add_assoc, Nat.add_zero, Nat.zero_add, List.length_append, and_true, true_and, AV.flat, hvo2, one_solid hvo2, one_cells hvo2, hwo, one_solid hwo, one_cells hwo, hpo, one_solid hpo, one_cells hpo, *, -hK, -hXm, -hXp, -hwl, -hinv, -hvl, -ov3, -ov4, -ow, -k4, -hl3, -back3, -hll, -hJ4] | with_reducible refine IfB_dec (fun h => ?_) (fun h => ?_) | with_reducible refine Guard_dec (fun h => ?_) (fun h => ?_) | with_reducible refine Guard_ndec (fun h => ?_) (fun h => ?_) | with_reducible refine Guard_not (fun h => ?_) (fun h => ?_) | with_reducible refine IfB_ndec (fun h => ?_) (fun h => ?_) | with_reducible refine IfB_not (fun h => ?_) (fun h => ?_) | with_reducible refine Guard_split (fun h => ?_) (fun h => ?_) | with_reducible refine IfB_split (fun h => ?_) (fun h => ?_))
            refine WX_rows hT hmix [(0, none), (1, none), (2, none), (3, none), (4, none), (5, none), (6, none), (7, none), (8, none), (9, none), (10, none), (11, none), (12, none)] (by kernel_rfl) ?_
            repeat' (first | simp only [go_sem, Nat.reduceLT, Nat.reduceEqDiff, Nat.reduceAdd, Nat.reduceMul, Nat.reduceSub, Nat.reduceLeDiff, Int.reduceToNat, Int.reduceNeg, Int.reduceLT, Int.reduceLE, Int.reduceEq, reduceCtorEq, Int.natCast_zero, Int.natCast_one, Int.cast_ofNat_Int, Bool.not_not, false_eq_decide, true_eq_decide, hread0, hreadk, read_cons0, read_consk, astore_h0, astore_hk, hget0, hgetk, hset0, hsetk, hlen, hcat, Nat.add_assoc, Nat.add_zero, Nat.zero_add, List.length_append, and_true, true_and, AV.flat, hvo2, one_solid hvo2, one_cells hvo2, hwo, one_solid hwo, one_cells hwo, hpo, one_solid hpo, one_cells hpo, *, -hK, -hXm, -hXp, -hwl, -hinv, -hvl, -ov3, -ov4, -ow, -k4, -hl3, -back3, -hll, -hJ4] | with_reducible refine IfB_dec (fun h => ?_) (fun h => ?_) | with_reducible refine Guard_dec (fun h => ?_) (fun h => ?_) | with_reducible refine Guard_ndec (fun h => ?_) (fun h => ?_) | with_reducible refine Guard_not (fun h => ?_) (fun h => ?_) | with_reducible refine IfB_ndec (fun h => ?_) (fun h => ?_) | with_reducible refine IfB_not (fun h => ?_) (fun h => ?_) | with_reducible refine Guard_split (fun h => ?_) (fun h => ?_) | with_reducible refine IfB_split (fun h => ?_) (fun h => ?_))
            exact back3 _ _ (by (repeat (first | exact hs | refine hA _ _ _ (by decide) ?_))) (by simp only [go_sem, Nat.reduceLT, Nat.reduceEqDiff, Nat.reduceAdd, Nat.reduceMul, Nat.reduceSub, Nat.reduceLeDiff, Int.reduceToNat, Int.reduceNeg, Int.reduceLT, Int.reduceLE, Int.reduceEq, reduceCtorEq]) (by simp only [go_sem, Nat.reduceLT, Nat.reduceEqDiff, Nat.reduceAdd, Nat.reduceMul, Nat.reduceSub, Nat.reduceLeDiff, Int.reduceToNat, Int.reduceNeg, Int.reduceLT, Int.reduceLE, Int.reduceEq, reduceCtorEq]) rfl (by repeat (first | exact hAf3 | refine hA0 _ _ _ (by decide) ?_)) (by repeat (first | exact hBf3 | refine hB0 _ _ _ (by decide) ?_))
        · rw [show decide ((⟨yc, yt, yk⟩ : Pu) = ⟨xc, xt, xk⟩) = false by simp [h1]] at back3
          repeat' (first | simp only [go_sem, Nat.reduceLT, Nat.reduceEqDiff, Nat.reduceAdd, Nat.reduceMul, Nat.reduceSub, Nat.reduceLeDiff, Int.reduceToNat, Int.reduceNeg, Int.reduceLT, Int.reduceLE, Int.reduceEq, reduceCtorEq, Int.natCast_zero, Int.natCast_one, Int.cast_ofNat_Int, Bool.not_not, false_eq_decide, true_eq_decide, hread0, hreadk, read_cons0, read_consk, astore_h0, astore_hk, hget0, hgetk, hset0, hsetk, hlen, hcat, Nat.add_assoc, Nat.add_zero, Nat.zero_add, List.length_append, and_true, true_and, AV.flat, hvo2, one_solid hvo2, one_cells hvo2, hwo, one_solid hwo, one_cells hwo, hpo, one_solid hpo, one_cells hpo, *, -hK, -hXm, -hXp, -hwl, -hinv, -hvl, -ov3, -ov4, -ow, -k4, -hl3, -back3, -hll, -hJ4] | with_reducible refine IfB_dec (fun h => ?_) (fun h => ?_) | with_reducible refine Guard_dec (fun h => ?_) (fun h => ?_) | with_reducible refine Guard_ndec (fun h => ?_) (fun h => ?_) | with_reducible refine Guard_not (fun h => ?_) (fun h => ?_) | with_reducible refine IfB_ndec (fun h => ?_) (fun h => ?_) | with_reducible refine IfB_not (fun h => ?_) (fun h => ?_) | with_reducible refine Guard_split (fun h => ?_) (fun h => ?_) | with_reducible refine IfB_split (fun h => ?_) (fun h => ?_))
          refine WX_rows hT hmix [(0, none), (1, none), (2, none), (3, none), (4, none), (5, none), (6, none), (7, none), (8, none), (9, none), (10, none), (11, none), (12, none)] (by kernel_rfl) ?_
          repeat' (first | simp only [go_sem, Nat.reduceLT, Nat.reduceEqDiff, Nat.reduceAdd, Nat.reduceMul, Nat.reduceSub, Nat.reduceLeDiff, Int.reduceToNat, Int.reduceNeg, Int.reduceLT, Int.reduceLE, Int.reduceEq, reduceCtorEq, Int.natCast_zero, Int.natCast_one, Int.cast_ofNat_Int, Bool.not_not, false_eq_decide, true_eq_decide, hread0, hreadk, read_cons0, read_consk, astore_h0, astore_hk, hget0, hgetk, hset0, hsetk, hlen, hcat, Nat.add_assoc, Nat.add_zero, Nat.zero_add, List.length_append, and_true, true_and, AV.flat, hvo2, one_solid hvo2, one_cells hvo2, hwo, one_solid hwo, one_cells hwo, hpo, one_solid hpo, one_cells hpo, *, -hK, -hXm, -hXp, -hwl, -hinv, -hvl, -ov3, -ov4, -ow, -k4, -hl3, -back3, -hll, -hJ4] | with_reducible refine IfB_dec (fun h => ?_) (fun h => ?_) | with_reducible refine Guard_dec (fun h => ?_) (fun h => ?_) | with_reducible refine Guard_ndec (fun h => ?_) (fun h => ?_) | with_reducible refine Guard_not (fun h => ?_) (fun h => ?_) | with_reducible refine IfB_ndec (fun h => ?_) (fun h => ?_) | with_reducible refine IfB_not (fun h => ?_) (fun h => ?_) | with_reducible refine Guard_split (fun h => ?_) (fun h => ?_) | with_reducible refine IfB_split (fun h => ?_) (fun h => ?_))
          exact back3 _ _ (by (repeat (first | exact hs | refine hA _ _ _ (by decide) ?_))) (by simp only [go_sem, Nat.reduceLT, Nat.reduceEqDiff, Nat.reduceAdd, Nat.reduceMul, Nat.reduceSub, Nat.reduceLeDiff, Int.reduceToNat, Int.reduceNeg, Int.reduceLT, Int.reduceLE, Int.reduceEq, reduceCtorEq]) (by simp only [go_sem, Nat.reduceLT, Nat.reduceEqDiff, Nat.reduceAdd, Nat.reduceMul, Nat.reduceSub, Nat.reduceLeDiff, Int.reduceToNat, Int.reduceNeg, Int.reduceLT, Int.reduceLE, Int.reduceEq, reduceCtorEq]) rfl (by repeat (first | exact hAf3 | refine hA0 _ _ _ (by decide) ?_)) (by repeat (first | exact hBf3 | refine hB0 _ _ _ (by decide) ?_))
    have i8 : ¬ (z : Int) < P.length := by omega
    have hze : z = P.length := by omega
    rw [hze, List.take_length] at f16
    by_cases hxP : x ∈ P
    · rw [decide_eq_true hxP] at f16
      rw [if_pos hxP, List.append_nil] at back2
      repeat' (first | simp only [go_sem, Nat.reduceLT, Nat.reduceEqDiff, Nat.reduceAdd, Nat.reduceMul, Nat.reduceSub, Nat.reduceLeDiff, Int.reduceToNat, Int.reduceNeg, Int.reduceLT, Int.reduceLE, Int.reduceEq, reduceCtorEq, Int.natCast_zero, Int.natCast_one, Int.cast_ofNat_Int, Bool.not_not, false_eq_decide, true_eq_decide, hread0, hreadk, read_cons0, read_consk, astore_h0, astore_hk, hget0, hgetk, hset0, hsetk, hlen, hcat, Nat.add_assoc, Nat.add_zero, Nat.zero_add, List.length_append, and_true, true_and, AV.flat, hvo2, one_solid hvo2, one_cells hvo2, hwo, one_solid hwo, one_cells hwo, hpo, one_solid hpo, one_cells hpo, *, -hK, -hXm, -hXp, -hwl, -hinv, -hvl, -ov3, -ov4, -ow, -k4, -hl3, -back2, -hll, -hJ4, -hze, -hxP, -e2] | with_reducible refine IfB_dec (fun h => ?_) (fun h => ?_) | with_reducible refine Guard_dec (fun h => ?_) (fun h => ?_) | with_reducible refine Guard_ndec (fun h => ?_) (fun h => ?_) | with_reducible refine Guard_not (fun h => ?_) (fun h => ?_) | with_reducible refine IfB_ndec (fun h => ?_) (fun h => ?_) | with_reducible refine IfB_not (fun h => ?_) (fun h => ?_) | with_reducible refine Guard_split (fun h => ?_) (fun h => ?_) | with_reducible refine IfB_split (fun h => ?_) (fun h => ?_))
      exact back2 _ _ _ (by repeat (first | exact hBf3 | refine hB0 _ _ _ (by decide) ?_)) (by simp only [go_sem, Nat.reduceLT, Nat.reduceEqDiff, Nat.reduceAdd, Nat.reduceMul, Nat.reduceSub, Nat.reduceLeDiff, Int.reduceToNat, Int.reduceNeg, Int.reduceLT, Int.reduceLE, Int.reduceEq, reduceCtorEq]) (by simp only [go_sem, Nat.reduceLT, Nat.reduceEqDiff, Nat.reduceAdd, Nat.reduceMul, Nat.reduceSub, Nat.reduceLeDiff, Int.reduceToNat, Int.reduceNeg, Int.reduceLT, Int.reduceLE, Int.reduceEq, reduceCtorEq]; exact s14) ow k4 (by repeat (first | exact hAf3 | refine hA0 _ _ _ (by decide) ?_))
    · rw [decide_eq_false hxP] at f16
      rw [if_neg hxP] at back2
      repeat' (first | simp only [go_sem, Nat.reduceLT, Nat.reduceEqDiff, Nat.reduceAdd, Nat.reduceMul, Nat.reduceSub, Nat.reduceLeDiff, Int.reduceToNat, Int.reduceNeg, Int.reduceLT, Int.reduceLE, Int.reduceEq, reduceCtorEq, Int.natCast_zero, Int.natCast_one, Int.cast_ofNat_Int, Bool.not_not, false_eq_decide, true_eq_decide, hread0, hreadk, read_cons0, read_consk, astore_h0, astore_hk, hget0, hgetk, hset0, hsetk, hlen, hcat, Nat.add_assoc, Nat.add_zero, Nat.zero_add, List.length_append, and_true, true_and, AV.flat, hvo2, one_solid hvo2, one_cells hvo2, hwo, one_solid hwo, one_cells hwo, hpo, one_solid hpo, one_cells hpo, *, -hK, -hXm, -hXp, -hwl, -hinv, -hvl, -ov3, -ov4, -ow, -k4, -hl3, -back2, -hll, -hJ4, -hze, -hxP] | with_reducible refine IfB_dec (fun h => ?_) (fun h => ?_) | with_reducible refine Guard_dec (fun h => ?_) (fun h => ?_) | with_reducible refine Guard_ndec (fun h => ?_) (fun h => ?_) | with_reducible refine Guard_not (fun h => ?_) (fun h => ?_) | with_reducible refine IfB_ndec (fun h => ?_) (fun h => ?_) | with_reducible refine IfB_not (fun h => ?_) (fun h => ?_) | with_reducible refine Guard_split (fun h => ?_) (fun h => ?_) | with_reducible refine IfB_split (fun h => ?_) (fun h => ?_))
      refine append1_enc (E := puE) (x := x) ow rfl se31 az47 td47 tk31 rfl rfl (by decide) (by show (_ + 1) * 99 ≤ _; omega) hJ4 ?_
      intro v5 H5 o5 k5 hn5
      have hv5 := o5.one
      repeat' (first | simp only [go_sem, Nat.reduceLT, Nat.reduceEqDiff, Nat.reduceAdd, Nat.reduceMul, Nat.reduceSub, Nat.reduceLeDiff, Int.reduceToNat, Int.reduceNeg, Int.reduceLT, Int.reduceLE, Int.reduceEq, reduceCtorEq, Int.natCast_zero, Int.natCast_one, Int.cast_ofNat_Int, Bool.not_not, false_eq_decide, true_eq_decide, hread0, hreadk, read_cons0, read_consk, astore_h0, astore_hk, hget0, hgetk, hset0, hsetk, hlen, hcat, Nat.add_assoc, Nat.add_zero, Nat.zero_add, List.length_append, and_true, true_and, AV.flat, hvo2, one_solid hvo2, one_cells hvo2, hwo, one_solid hwo, one_cells hwo, hv5, one_solid hv5, one_cells hv5, hpo, one_solid hpo, one_cells hpo, *, -hK, -hXm, -hXp, -hwl, -hinv, -hvl, -ov3, -ov4, -ow, -k4, -hl3, -back2, -hll, -hJ4, -hze, -hxP, -o5, -k5, -hn5] | with_reducible refine IfB_dec (fun h => ?_) (fun h => ?_) | with_reducible refine Guard_dec (fun h => ?_) (fun h => ?_) | with_reducible refine Guard_ndec (fun h => ?_) (fun h => ?_) | with_reducible refine Guard_not (fun h => ?_) (fun h => ?_) | with_reducible refine IfB_ndec (fun h => ?_) (fun h => ?_) | with_reducible refine IfB_not (fun h => ?_) (fun h => ?_) | with_reducible refine Guard_split (fun h => ?_) (fun h => ?_) | with_reducible refine IfB_split (fun h => ?_) (fun h => ?_))
      exact back2 _ _ _ (by repeat (first | exact hBf3 | refine hB0 _ _ _ (by decide) ?_)) (by simp only [go_sem, Nat.reduceLT, Nat.reduceEqDiff, Nat.reduceAdd, Nat.reduceMul, Nat.reduceSub, Nat.reduceLeDiff, Int.reduceToNat, Int.reduceNeg, Int.reduceLT, Int.reduceLE, Int.reduceEq, reduceCtorEq]) rfl (by simp only [go_sem, Nat.reduceLT, Nat.reduceEqDiff, Nat.reduceAdd, Nat.reduceMul, Nat.reduceSub, Nat.reduceLeDiff, Int.reduceToNat, Int.reduceNeg, Int.reduceLT, Int.reduceLE, Int.reduceEq, reduceCtorEq]; exact o5) (k4.via k5 (fun b hb => ow.ge hb)) (by repeat (first | exact hAf3 | refine hA0 _ _ _ (by decide) ?_))
  have i6 : ¬ (q : Int) < hw'.length := by omega
  have hqe : q = hw'.length := by omega
  rw [hqe, List.take_length] at ow
  have hll : (leftL hw' P).length ≤ hw'.length := List.length_filter_le _ _
  have hlp : ∀ p ∈ leftL hw' P, hasP X p := fun p hp => by
    unfold leftL at hp
    rw [List.mem_filter] at hp
    exact hXp p hp.1 (by simpa using hp.2)
  have gt4 := k4.get gt3 (by simp)
  have ow4 : OwnE puE (H.length + 1) J4 w (leftL hw' P) := ow.mono hl3
  have hJ4 : H.length + 1 ≤ J4.length := by have := k4.len; omega
  clear ow k4 gt3 ov3 ov4 hXp hR2 hinv hqe
  generalize leftL hw' P = lf at *
  repeat' (first | simp only [go_sem, Nat.reduceLT, Nat.reduceEqDiff, Nat.reduceAdd, Nat.reduceMul, Nat.reduceSub, Nat.reduceLeDiff, Int.reduceToNat, Int.reduceNeg, Int.reduceLT, Int.reduceLE, Int.reduceEq, reduceCtorEq, Int.natCast_zero, Int.natCast_one, Int.cast_ofNat_Int, Bool.not_not, false_eq_decide, true_eq_decide, hread0, hreadk, read_cons0, read_consk, astore_h0, astore_hk, hget0, hgetk, hset0, hsetk, hlen, hcat, Nat.add_assoc, Nat.add_zero, Nat.zero_add, List.length_append, and_true, true_and, AV.flat, hvo2, one_solid hvo2, one_cells hvo2, hwo, one_solid hwo, one_cells hwo, hpo, one_solid hpo, one_cells hpo, *, -hK, -hXm, -hwl, -hvl, -hl3, -back, -hll, -hlp, -gt4, -ow4, -hJ4, -hlq] | with_reducible refine IfB_dec (fun h => ?_) (fun h => ?_) | with_reducible refine Guard_dec (fun h => ?_) (fun h => ?_) | with_reducible refine Guard_ndec (fun h => ?_) (fun h => ?_) | with_reducible refine Guard_not (fun h => ?_) (fun h => ?_) | with_reducible refine IfB_ndec (fun h => ?_) (fun h => ?_) | with_reducible refine IfB_not (fun h => ?_) (fun h => ?_) | with_reducible refine Guard_split (fun h => ?_) (fun h => ?_) | with_reducible refine IfB_split (fun h => ?_) (fun h => ?_))
  have o1 := s1
  have o5 := s5
  have o6 := s6
  have o9 := s9
  clear hg hs hA s1 s5 s6 s8 s9 s12
  refine WX_loopS [1, 5, 6, 8, 9] (fun k fr' J5 => ∃ (z : Nat), k = lf.length - z ∧ z ≤ lf.length ∧ fr'.get 18 = .int .i64 z ∧ J5 = J4 ∧ A fr') lf.length ⟨0, rfl, by omega, by simp only [go_sem, Nat.reduceLT, Nat.reduceEqDiff, Nat.reduceAdd, Nat.reduceMul, Nat.reduceSub, Nat.reduceLeDiff, Int.reduceToNat, Int.reduceNeg, Int.reduceLT, Int.reduceLE, Int.reduceEq, reduceCtorEq]; rfl, rfl, by repeat (first | exact hAf | refine hA0 _ _ _ (by decide) ?_)⟩ ?_
  rintro k fr' J5 A3 R3 hA hs hg hR3 ⟨z, rfl, hz, f18, rfl, hAf3⟩
  have s1 := hg 1 (by decide)
  have s5 := hg 5 (by decide)
  have s6 := hg 6 (by decide)
  have s8 := hg 8 (by decide)
  have s9 := hg 9 (by decide)
  simp only [Fr.get_put, Fr.get_init, List.getD_cons_zero, List.getD_cons_succ, Nat.reduceEqDiff, if_true, if_false] at s1 s5 s6 s8 s9
  rw [o1] at s1
  rw [o5] at s5
  rw [o6] at s6
  rw [o9] at s9
  clear o1 o5 o6 o9
  refine wx_sound hT _ ?_
  have e0 := ow4.alen (by decide) tk31
  by_cases hlz : z < lf.length
  rotate_left
  · have i8 : ¬ (z : Int) < lf.length := by omega
    repeat' (first | simp only [go_sem, Nat.reduceLT, Nat.reduceEqDiff, Nat.reduceAdd, Nat.reduceMul, Nat.reduceSub, Nat.reduceLeDiff, Int.reduceToNat, Int.reduceNeg, Int.reduceLT, Int.reduceLE, Int.reduceEq, reduceCtorEq, Int.natCast_zero, Int.natCast_one, Int.cast_ofNat_Int, Bool.not_not, false_eq_decide, true_eq_decide, hread0, hreadk, read_cons0, read_consk, astore_h0, astore_hk, hget0, hgetk, hset0, hsetk, hlen, hcat, Nat.add_assoc, Nat.add_zero, Nat.zero_add, List.length_append, and_true, true_and, AV.flat, hwo, one_solid hwo, one_cells hwo, *, -hK, -hXm, -hwl, -hvl, -hl3, -back, -hll, -hlp, -gt4, -ow4, -hJ4, -hlz] | with_reducible refine IfB_dec (fun h => ?_) (fun h => ?_) | with_reducible refine Guard_dec (fun h => ?_) (fun h => ?_) | with_reducible refine Guard_ndec (fun h => ?_) (fun h => ?_) | with_reducible refine Guard_not (fun h => ?_) (fun h => ?_) | with_reducible refine IfB_ndec (fun h => ?_) (fun h => ?_) | with_reducible refine IfB_not (fun h => ?_) (fun h => ?_) | with_reducible refine Guard_split (fun h => ?_) (fun h => ?_) | with_reducible refine IfB_split (fun h => ?_) (fun h => ?_))
    exact back _ _ X lf w (by repeat (first | exact hAf3 | refine hA0 _ _ _ (by decide) ?_)) (by simp only [go_sem, Nat.reduceLT, Nat.reduceEqDiff, Nat.reduceAdd, Nat.reduceMul, Nat.reduceSub, Nat.reduceLeDiff, Int.reduceToNat, Int.reduceNeg, Int.reduceLT, Int.reduceLE, Int.reduceEq, reduceCtorEq]) (by simp only [go_sem, Nat.reduceLT, Nat.reduceEqDiff, Nat.reduceAdd, Nat.reduceMul, Nat.reduceSub, Nat.reduceLeDiff, Int.reduceToNat, Int.reduceNeg, Int.reduceLT, Int.reduceLE, Int.reduceEq, reduceCtorEq]; exact s8) gt4 ow4 hXm hlp (by omega) hJ4
  have i8 : (z : Int) < lf.length := by omega
  have e9 := inc_id hlz (by omega)
  obtain ⟨pb, po, e1, e2, -⟩ := ow4.at_ (by decide) se31 hlz (k := .i64) rfl
  rw [show puE.sz = 3 from rfl, puE_cells] at e2
  obtain ⟨c, hc, hcl2, hin⟩ := hlp _ (List.getElem_mem hlz)
  have hs2 := fun J => has_spec X c ⟨lf[z].ten, lf[z].key⟩ hcl2 (by have := (hXm.2.2 _ (List.getElem_mem hcl2)).1.2; omega) J
  rw [decide_eq_true hin] at hs2
  clear hin hlp
  generalize lf[z] = y at *
  obtain ⟨yc, yt, yk⟩ := y
  simp only at hc e2 hs2
  subst hc
  have e20 := read_sub e2 0 1 (by omega)
  have e21 := read_sub e2 1 2 (by omega)
  simp only [Nat.add_zero, List.drop_zero, List.take_succ_cons, List.take_zero, List.drop_succ_cons] at e20 e21
  unfold trAv Nm.av at hs2
  repeat' (first | simp only [go_sem, Nat.reduceLT, Nat.reduceEqDiff, Nat.reduceAdd, Nat.reduceMul, Nat.reduceSub, Nat.reduceLeDiff, Int.reduceToNat, Int.reduceNeg, Int.reduceLT, Int.reduceLE, Int.reduceEq, reduceCtorEq, Int.natCast_zero, Int.natCast_one, Int.cast_ofNat_Int, Bool.not_not, false_eq_decide, true_eq_decide, hread0, hreadk, read_cons0, read_consk, astore_h0, astore_hk, hget0, hgetk, hset0, hsetk, hlen, hcat, Nat.add_assoc, Nat.add_zero, Nat.zero_add, List.length_append, and_true, true_and, AV.flat, gt4, get_app gt4, read_get gt4, read_app gt4, hwo, one_solid hwo, one_cells hwo, *, -hK, -hXm, -hwl, -hvl, -hl3, -back, -hll, -gt4, -ow4, -hJ4, -hs2, -e2] | with_reducible refine IfB_dec (fun h => ?_) (fun h => ?_) | with_reducible refine Guard_dec (fun h => ?_) (fun h => ?_) | with_reducible refine Guard_ndec (fun h => ?_) (fun h => ?_) | with_reducible refine Guard_not (fun h => ?_) (fun h => ?_) | with_reducible refine IfB_ndec (fun h => ?_) (fun h => ?_) | with_reducible refine IfB_not (fun h => ?_) (fun h => ?_) | with_reducible refine Guard_split (fun h => ?_) (fun h => ?_) | with_reducible refine IfB_split (fun h => ?_) (fun h => ?_))
  refine WX_rows hT hmix [(0, none), (1, none), (2, none), (3, none), (4, none), (5, none), (6, none), (7, none), (8, none), (9, none), (10, none), (11, some [true, true, true, true, true, true, true, true, true, true, true]), (12, none)] (by kernel_rfl) ?_
  repeat' (first | simp only [go_sem, Nat.reduceLT, Nat.reduceEqDiff, Nat.reduceAdd, Nat.reduceMul, Nat.reduceSub, Nat.reduceLeDiff, Int.reduceToNat, Int.reduceNeg, Int.reduceLT, Int.reduceLE, Int.reduceEq, reduceCtorEq, Int.natCast_zero, Int.natCast_one, Int.cast_ofNat_Int, Bool.not_not, false_eq_decide, true_eq_decide, hread0, hreadk, read_cons0, read_consk, astore_h0, astore_hk, hget0, hgetk, hset0, hsetk, hlen, hcat, Nat.add_assoc, Nat.add_zero, Nat.zero_add, List.length_append, and_true, true_and, AV.flat, gt4, get_app gt4, read_get gt4, read_app gt4, hwo, one_solid hwo, one_cells hwo, *, -hK, -hXm, -hwl, -hvl, -hl3, -back, -hll, -gt4, -ow4, -hJ4, -hs2, -e2] | refine WC.call (hs2 _) ?_ | with_reducible refine IfB_dec (fun h => ?_) (fun h => ?_) | with_reducible refine Guard_dec (fun h => ?_) (fun h => ?_) | with_reducible refine Guard_ndec (fun h => ?_) (fun h => ?_) | with_reducible refine Guard_not (fun h => ?_) (fun h => ?_) | with_reducible refine IfB_ndec (fun h => ?_) (fun h => ?_) | with_reducible refine IfB_not (fun h => ?_) (fun h => ?_) | with_reducible refine Guard_split (fun h => ?_) (fun h => ?_) | with_reducible refine IfB_split (fun h => ?_) (fun h => ?_))
  exact hR3 _ _ (by (repeat (first | exact hs | refine hA _ _ _ (by decide) ?_))) (lf.length - (z + 1)) (by omega) ⟨z + 1, rfl, by omega, by simp only [go_sem, Nat.reduceLT, Nat.reduceEqDiff, Nat.reduceAdd, Nat.reduceMul, Nat.reduceSub, Nat.reduceLeDiff, Int.reduceToNat, Int.reduceNeg, Int.reduceLT, Int.reduceLE, Int.reduceEq, reduceCtorEq], rfl, by repeat (first | exact hAf3 | refine hA0 _ _ _ (by decide) ?_)⟩
end Go.Proofs.Ytccfhighlpfdmaa
