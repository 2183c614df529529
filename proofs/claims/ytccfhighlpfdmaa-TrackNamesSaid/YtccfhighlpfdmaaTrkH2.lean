import Derived.Test.YtccfhighlpfdmaaTrkF2
import Derived.Test.YtccfhighlpfdmaaTrackV
set_option linter.unusedSimpArgs false
set_option linter.unusedVariables false
set_option maxRecDepth 100000
set_option maxHeartbeats 4000000
namespace Go.Proofs.Ytccfhighlpfdmaa
open Go Go.Proofs Go.Proofs.PI
/-! ### the chapter's examples -/
def readsL (ts : List Tk) (c : Int) (ns : List Nm) : List Tk × List Pu := ns.foldl (fun s n => if (trRead s.1 c n).2 = 0 then ((trRead s.1 c n).1.1, s.2 ++ (trRead s.1 c n).1.2) else s) (ts, [])
theorem readsL_step (ts : List Tk) (c : Int) {ns : List Nm} {i : Nat} (h : i < ns.length) : readsL ts c (ns.take (i + 1)) = if (trRead (readsL ts c (ns.take i)).1 c ns[i]).2 = 0 then ((trRead (readsL ts c (ns.take i)).1 c ns[i]).1.1, (readsL ts c (ns.take i)).2 ++ (trRead (readsL ts c (ns.take i)).1 c ns[i]).1.2) else readsL ts c (ns.take i) := by
  unfold readsL; rw [List.take_succ_eq_append_getElem h, List.foldl_append]; rfl
theorem trRead_may {l : List Tk} {c : Int} {n : Nm} (hm : trMay l) (h : (trRead l c n).2 = 0) : trMay (trRead l c n).1.1 ∧ (trRead l c n).1.2.length ≤ 1 := by
  rcases trRead_cases l c n hm with ⟨e0, _⟩ | ⟨j, rfl, hj, hmn, ⟨_, e⟩ | ⟨ho, e⟩⟩
  · exact absurd h e0
  · rw [e]; exact ⟨hm, by simp⟩
  · rw [e]
    refine ⟨trMay_set hm _ (readT_may (hm.2.2 _ (List.getElem_mem hj)) ho hmn j).1, ?_⟩
    unfold readT; split
    · simp
    · rw [List.length_map, List.length_take]; omega
theorem readsL_may {ts : List Tk} {c : Int} {ns : List Nm} (hm : trMay ts) : ∀ i, trMay (readsL ts c (ns.take i)).1 ∧ (readsL ts c (ns.take i)).2.length ≤ i
  | 0 => ⟨hm, by simp [readsL]⟩
  | i + 1 => by
    have ih := readsL_may (c := c) (ns := ns) hm i
    by_cases h : i < ns.length
    · rw [readsL_step ts c h]
      split
      · rename_i h0
        have := trRead_may ih.1 h0
        exact ⟨this.1, by simp only [List.length_append]; omega⟩
      · exact ⟨ih.1, by omega⟩
    · rw [List.take_of_length_le (by omega)]
      rw [List.take_of_length_le (by omega)] at ih
      exact ⟨ih.1, by omega⟩
theorem read_spec {m : Nat} (ts : List Tk) (c : Int) (v : AV) (ns : List Nm) (hm : trMay ts) (hn : ns.length ≤ 1000) (H : Heap) (hv : OwnE nmE m H v ns) :
    WC Try.prog 18 [trAv ts, .int .i64 c, v] H fun r H' => r = .tup [trAv (readsL ts c ns).1, puE.lst (readsL ts c ns).2] ∧ H' = H := by
  refine WC_val fun K hK => ?_
  have hvo := hv.one
  have e0 := hv.alen (by decide) tk34
  unfold trAv at *
  refine WC_of_body hT Try.func18 rfl (by simp [Try.f18]) (by simp [Try.f18]) (wx_sound hT _ ?_)
  simp only [Try.f18]
  repeat' (first | simp only [go_sem, Nat.reduceLT, Nat.reduceEqDiff, Nat.reduceAdd, Nat.reduceMul, Nat.reduceSub, Nat.reduceLeDiff, Int.reduceToNat, Int.reduceNeg, Int.reduceLT, Int.reduceLE, Int.reduceEq, reduceCtorEq, Int.natCast_zero, Int.natCast_one, Int.cast_ofNat_Int, Bool.not_not, false_eq_decide, true_eq_decide, hread0, hreadk, read_cons0, read_consk, astore_h0, astore_hk, hget0, hgetk, hset0, hsetk, hlen, hcat, Nat.add_assoc, Nat.add_zero, Nat.zero_add, List.length_append, and_true, true_and, AV.flat, hvo, one_solid hvo, one_cells hvo, *, -hK, -hv, -hm] | with_reducible refine IfB_dec (fun h => ?_) (fun h => ?_) | with_reducible refine Guard_dec (fun h => ?_) (fun h => ?_) | with_reducible refine Guard_ndec (fun h => ?_) (fun h => ?_) | with_reducible refine Guard_not (fun h => ?_) (fun h => ?_) | with_reducible refine IfB_ndec (fun h => ?_) (fun h => ?_) | with_reducible refine IfB_not (fun h => ?_) (fun h => ?_) | with_reducible refine Guard_split (fun h => ?_) (fun h => ?_) | with_reducible refine IfB_split (fun h => ?_) (fun h => ?_))
  have hmay := fun i => readsL_may (c := c) (ns := ns) hm i
  refine WX_loopS [1, 2, 3, 6] (fun k fr' J => ∃ (i : Nat) (w : AV), k = ns.length - i ∧ i ≤ ns.length ∧ fr'.get 9 = .int .i64 i ∧ fr'.get 8 = w ∧ OwnE puE (H.length + 2) J w (readsL ts c (ns.take i)).2 ∧ Keep none H J ∧ H.length + 2 ≤ J.length ∧ J[H.length]? = some (⟨[tkE.lst (readsL ts c (ns.take i)).1], 0, .full⟩ : Blk) ∧ J[H.length + 1]? = some (⟨[.nils], 0, .full⟩ : Blk)) ns.length ⟨0, .nils, rfl, by omega, by simp only [go_sem, Nat.reduceLT, Nat.reduceEqDiff, Nat.reduceAdd, Nat.reduceMul, Nat.reduceSub, Nat.reduceLeDiff, Int.reduceToNat, Int.reduceNeg, Int.reduceLT, Int.reduceLE, Int.reduceEq, reduceCtorEq]; rfl, by simp only [go_sem, Nat.reduceLT, Nat.reduceEqDiff, Nat.reduceAdd, Nat.reduceMul, Nat.reduceSub, Nat.reduceLeDiff, Int.reduceToNat, Int.reduceNeg, Int.reduceLT, Int.reduceLE, Int.reduceEq, reduceCtorEq], OwnE.nils _ _ _, Keep.app _ _ _, by simp, by rw [hget0]; rfl, by rw [hgetk]; rfl⟩ ?_
  rintro k fr' J A R hA hs hg hR ⟨i, w, rfl, hi, f9, f8, ow, kJ, hJl, g0, g1⟩
  have s1 := hg 1 (by decide)
  have s2 := hg 2 (by decide)
  have s3 := hg 3 (by decide)
  have s6 := hg 6 (by decide)
  simp only [Fr.get_put, Fr.get_init, List.getD_cons_zero, List.getD_cons_succ, Nat.reduceEqDiff, if_true, if_false] at s1 s2 s3 s6
  refine wx_sound hT _ ?_
  have hwo := ow.one
  by_cases hlt : i < ns.length
  rotate_left
  · have i1 : ¬ (i : Int) < ns.length := by omega
    have hie : i = ns.length := by omega
    rw [hie, List.take_length] at ow g0
    repeat' (first | simp only [go_sem, Nat.reduceLT, Nat.reduceEqDiff, Nat.reduceAdd, Nat.reduceMul, Nat.reduceSub, Nat.reduceLeDiff, Int.reduceToNat, Int.reduceNeg, Int.reduceLT, Int.reduceLE, Int.reduceEq, reduceCtorEq, Int.natCast_zero, Int.natCast_one, Int.cast_ofNat_Int, Bool.not_not, false_eq_decide, true_eq_decide, hread0, hreadk, read_cons0, read_consk, astore_h0, astore_hk, hget0, hgetk, hset0, hsetk, hlen, hcat, Nat.add_assoc, Nat.add_zero, Nat.zero_add, List.length_append, and_true, true_and, AV.flat, g0, get_app g0, read_get g0, read_app g0, g1, get_app g1, read_get g1, read_app g1, astore_get g1, astore_app g1, get_set g1, get_set_app g1, read_set g1, read_set_app g1, astore_set g1, astore_set_app g1, List.set_set, hget0s, hgetks, hread0s, hreadks, List.length_set, hvo, one_solid hvo, one_cells hvo, hwo, one_solid hwo, one_cells hwo, *, -hK, -hv, -hm, -hmay, -ow, -kJ, -hJl, -hie] | with_reducible refine IfB_dec (fun h => ?_) (fun h => ?_) | with_reducible refine Guard_dec (fun h => ?_) (fun h => ?_) | with_reducible refine Guard_ndec (fun h => ?_) (fun h => ?_) | with_reducible refine Guard_not (fun h => ?_) (fun h => ?_) | with_reducible refine IfB_ndec (fun h => ?_) (fun h => ?_) | with_reducible refine IfB_not (fun h => ?_) (fun h => ?_) | with_reducible refine Guard_split (fun h => ?_) (fun h => ?_) | with_reducible refine IfB_split (fun h => ?_) (fun h => ?_))
    refine hK _ _ (Thaw.tup_row ⟨Thaw.agg_row ⟨.atom _ rfl, trivial⟩, ?_, trivial⟩) ⟨by simp; omega, fun b hb _ => by rw [List.getElem?_set_ne (by omega)]; exact kJ.at_ b hb (by simp)⟩
    exact (OwnE.keep (ow.mono (m' := H.length) (by omega)) (Keep.of_set rfl) (fun b hb e => by cases hb; have := ow.ge e; omega)).thaw (by decide)
  have i1 : (i : Int) < ns.length := by omega
  have e3 := inc_id hlt (by omega)
  obtain ⟨b, o, e1, e2, -⟩ := (hv.keep0 kJ).at_ (by decide) se34 hlt (k := .i64) rfl
  rw [show nmE.sz = 2 from rfl, nmE_cells] at e2
  obtain ⟨hm1, hp1⟩ := hmay i
  have hst := readsL_step ts c hlt
  have back : ∀ fr2 J2 w2, A fr2 → fr2.get 9 = .int .i64 ((i + 1 : Nat) : Int) → fr2.get 8 = w2 → OwnE puE (H.length + 2) J2 w2 (readsL ts c (ns.take (i + 1))).2 → Keep none H J2 → H.length + 2 ≤ J2.length → J2[H.length]? = some (⟨[tkE.lst (readsL ts c (ns.take (i + 1))).1], 0, .full⟩ : Blk) → J2[H.length + 1]? = some (⟨[.nils], 0, .full⟩ : Blk) → R fr2 J2 := fun fr2 J2 w2 ha q1 q2 q3 q4 q5 q6 q7 => hR fr2 J2 ha (ns.length - (i + 1)) (by omega) ⟨i + 1, w2, rfl, by omega, q1, q2, q3, q4, q5, q6, q7⟩
  clear hR hmay
  rw [hst] at back
  clear hst
  generalize ns[i] = n at *
  generalize readsL ts c (ns.take i) = st at *
  obtain ⟨s1', s2'⟩ := st
  simp only at *
  have rd := fun J => trRead_spec s1' c n (by have := hm1.2.1; omega) (fun t ht => by have := (hm1.2.2 t ht).1.2; omega) J
  have hmr := fun h => (trRead_may (c := c) (n := n) hm1 h).2
  generalize trRead s1' c n = tr at *
  obtain ⟨⟨X, P⟩, e⟩ := tr
  unfold trAv Nm.av at rd
  simp only at *
  by_cases he : e = 0
  · subst he
    rw [if_pos rfl] at back
    have hP1 := hmr rfl
    have src := fun J => src_enc (T := T) (H := J) (E := puE) (xs := P) tk31
    have gx : (J ++ [(⟨[tkE.lst X], 0, .full⟩ : Blk)] : Heap)[J.length]? = some ⟨[tkE.lst X], 0, .full⟩ := by simp
    have g01 := get_app g0 [(⟨[tkE.lst X], 0, .full⟩ : Blk)]
    have g11 := get_app g1 [(⟨[tkE.lst X], 0, .full⟩ : Blk)]
    have ow1 := ow.keep0 (Keep.app none J [(⟨[tkE.lst X], 0, .full⟩ : Blk)])
    have kJ1 := kJ.trans (Keep.app none J [(⟨[tkE.lst X], 0, .full⟩ : Blk)])
    repeat' (first | simp only [go_sem, Nat.reduceLT, Nat.reduceEqDiff, Nat.reduceAdd, Nat.reduceMul, Nat.reduceSub, Nat.reduceLeDiff, Int.reduceToNat, Int.reduceNeg, Int.reduceLT, Int.reduceLE, Int.reduceEq, reduceCtorEq, Int.natCast_zero, Int.natCast_one, Int.cast_ofNat_Int, Bool.not_not, false_eq_decide, true_eq_decide, hread0, hreadk, read_cons0, read_consk, astore_h0, astore_hk, hget0, hgetk, hset0, hsetk, hlen, hcat, Nat.add_assoc, Nat.add_zero, Nat.zero_add, List.length_append, and_true, true_and, AV.flat, g0, get_app g0, read_get g0, read_app g0, hvo, one_solid hvo, one_cells hvo, hwo, one_solid hwo, one_cells hwo, *, -hK, -hv, -hm, -ow, -kJ, -hJl, -rd, -back, -hmr, -hP1, -src, -g1, -hm1, -hp1, -gx, -g01, -g11, -ow1, -kJ1] | refine WC.call (rd _) ?_ | with_reducible refine IfB_dec (fun h => ?_) (fun h => ?_) | with_reducible refine Guard_dec (fun h => ?_) (fun h => ?_) | with_reducible refine Guard_ndec (fun h => ?_) (fun h => ?_) | with_reducible refine Guard_not (fun h => ?_) (fun h => ?_) | with_reducible refine IfB_ndec (fun h => ?_) (fun h => ?_) | with_reducible refine IfB_not (fun h => ?_) (fun h => ?_) | with_reducible refine Guard_split (fun h => ?_) (fun h => ?_) | with_reducible refine IfB_split (fun h => ?_) (fun h => ?_))
    refine WX_rows hT hmix [(0, none), (1, none), (2, none), (3, none), (4, none), (5, none), (11, none), (6, some [false, true, true, true, true, true, true]), (7, none), (8, none), (9, none), (10, none), (12, some [false, false, true, true, true, true, true, true, true, true, true, true]), (13, none), (14, none)] (by kernel_rfl) ?_
    repeat' (first | simp only [go_sem, Nat.reduceLT, Nat.reduceEqDiff, Nat.reduceAdd, Nat.reduceMul, Nat.reduceSub, Nat.reduceLeDiff, Int.reduceToNat, Int.reduceNeg, Int.reduceLT, Int.reduceLE, Int.reduceEq, reduceCtorEq, Int.natCast_zero, Int.natCast_one, Int.cast_ofNat_Int, Bool.not_not, false_eq_decide, true_eq_decide, hread0, hreadk, read_cons0, read_consk, astore_h0, astore_hk, hget0, hgetk, hset0, hsetk, hlen, hcat, Nat.add_assoc, Nat.add_zero, Nat.zero_add, List.length_append, and_true, true_and, AV.flat, g0, get_app g0, read_get g0, read_app g0, g01, get_app g01, read_get g01, read_app g01, hvo, one_solid hvo, one_cells hvo, hwo, one_solid hwo, one_cells hwo, *, -hK, -hv, -hm, -ow, -kJ, -hJl, -rd, -back, -hmr, -hP1, -src, -g1, -hm1, -hp1, -gx, -g11, -ow1, -kJ1] | refine WC.call (rd _) ?_ | with_reducible refine IfB_dec (fun h => ?_) (fun h => ?_) | with_reducible refine Guard_dec (fun h => ?_) (fun h => ?_) | with_reducible refine Guard_ndec (fun h => ?_) (fun h => ?_) | with_reducible refine Guard_not (fun h => ?_) (fun h => ?_) | with_reducible refine IfB_ndec (fun h => ?_) (fun h => ?_) | with_reducible refine IfB_not (fun h => ?_) (fun h => ?_) | with_reducible refine Guard_split (fun h => ?_) (fun h => ?_) | with_reducible refine IfB_split (fun h => ?_) (fun h => ?_))
    have hGl : (J ++ [(⟨[tkE.lst X], 0, .full⟩ : Blk)] : Heap).length = J.length + 1 := by simp
    generalize (J ++ [(⟨[tkE.lst X], 0, .full⟩ : Blk)] : Heap) = G at *
    have ow2 : OwnE puE (H.length + 2) (List.set G H.length ⟨[tkE.lst X], 0, .full⟩) w s2' := ow1.keep (Keep.of_set rfl) (fun b hb e => by cases hb; have := ow1.ge e; omega)
    have h0 : (List.set G H.length ⟨[tkE.lst X], 0, .full⟩ : Heap)[H.length]? = some ⟨[tkE.lst X], 0, .full⟩ := List.getElem?_set_self (by omega)
    have h1 : (List.set G H.length ⟨[tkE.lst X], 0, .full⟩ : Heap)[H.length + 1]? = some ⟨[.nils], 0, .full⟩ := by rw [List.getElem?_set_ne (by omega)]; exact g11
    have k2 : Keep none H (List.set G H.length ⟨[tkE.lst X], 0, .full⟩ : Heap) := ⟨by simp; omega, fun b hb _ => by rw [List.getElem?_set_ne (by omega)]; exact kJ1.at_ b hb (by simp)⟩
    have hl2 : H.length + 2 ≤ (List.set G H.length ⟨[tkE.lst X], 0, .full⟩ : Heap).length := by simp; omega
    repeat' (first | simp only [go_sem, Nat.reduceLT, Nat.reduceEqDiff, Nat.reduceAdd, Nat.reduceMul, Nat.reduceSub, Nat.reduceLeDiff, Int.reduceToNat, Int.reduceNeg, Int.reduceLT, Int.reduceLE, Int.reduceEq, reduceCtorEq, Int.natCast_zero, Int.natCast_one, Int.cast_ofNat_Int, Bool.not_not, false_eq_decide, true_eq_decide, hread0, hreadk, read_cons0, read_consk, astore_h0, astore_hk, hget0, hgetk, hset0, hsetk, hlen, hcat, Nat.add_assoc, Nat.add_zero, Nat.zero_add, List.length_append, and_true, true_and, AV.flat, g01, get_app g01, read_get g01, read_app g01, astore_get g01, astore_app g01, get_set g01, get_set_app g01, read_set g01, read_set_app g01, astore_set g01, astore_set_app g01, List.set_set, hget0s, hgetks, hread0s, hreadks, List.length_set, gx, get_app gx, read_get gx, read_app gx, hvo, one_solid hvo, one_cells hvo, hwo, one_solid hwo, one_cells hwo, *, -hK, -hv, -hm, -ow, -kJ, -hJl, -rd, -back, -hmr, -hP1, -src, -g1, -hm1, -hp1, -g11, -ow1, -kJ1, -ow2, -h0, -h1, -k2, -hl2] | with_reducible refine IfB_dec (fun h => ?_) (fun h => ?_) | with_reducible refine Guard_dec (fun h => ?_) (fun h => ?_) | with_reducible refine Guard_ndec (fun h => ?_) (fun h => ?_) | with_reducible refine Guard_not (fun h => ?_) (fun h => ?_) | with_reducible refine IfB_ndec (fun h => ?_) (fun h => ?_) | with_reducible refine IfB_not (fun h => ?_) (fun h => ?_) | with_reducible refine Guard_split (fun h => ?_) (fun h => ?_) | with_reducible refine IfB_split (fun h => ?_) (fun h => ?_))
    refine append_enc (E := puE) (m := H.length + 2) (ys := P) ow2 se31 az47 td47 (src _) (by decide) (by show (s2'.length + P.length) * 99 ≤ _; omega) hl2 ?_
    intro w3 J3 o3 k3 hn3
    have hw3 := o3.one
    repeat' (first | simp only [go_sem, Nat.reduceLT, Nat.reduceEqDiff, Nat.reduceAdd, Nat.reduceMul, Nat.reduceSub, Nat.reduceLeDiff, Int.reduceToNat, Int.reduceNeg, Int.reduceLT, Int.reduceLE, Int.reduceEq, reduceCtorEq, Int.natCast_zero, Int.natCast_one, Int.cast_ofNat_Int, Bool.not_not, false_eq_decide, true_eq_decide, hread0, hreadk, read_cons0, read_consk, astore_h0, astore_hk, hget0, hgetk, hset0, hsetk, hlen, hcat, Nat.add_assoc, Nat.add_zero, Nat.zero_add, List.length_append, and_true, true_and, AV.flat, hw3, one_solid hw3, one_cells hw3, hwo, one_solid hwo, one_cells hwo, *, -hK, -hv, -hm, -ow, -kJ, -hJl, -rd, -back, -hmr, -hP1, -src, -g1, -hm1, -hp1, -g11, -ow1, -kJ1, -ow2, -h0, -h1, -k2, -hl2, -o3, -k3, -hn3, -g01, -gx] | with_reducible refine IfB_dec (fun h => ?_) (fun h => ?_) | with_reducible refine Guard_dec (fun h => ?_) (fun h => ?_) | with_reducible refine Guard_ndec (fun h => ?_) (fun h => ?_) | with_reducible refine Guard_not (fun h => ?_) (fun h => ?_) | with_reducible refine IfB_ndec (fun h => ?_) (fun h => ?_) | with_reducible refine IfB_not (fun h => ?_) (fun h => ?_) | with_reducible refine Guard_split (fun h => ?_) (fun h => ?_) | with_reducible refine IfB_split (fun h => ?_) (fun h => ?_))
    exact back _ _ _ (by (repeat (first | exact hs | refine hA _ _ _ (by decide) ?_))) (by simp only [go_sem, Nat.reduceLT, Nat.reduceEqDiff, Nat.reduceAdd, Nat.reduceMul, Nat.reduceSub, Nat.reduceLeDiff, Int.reduceToNat, Int.reduceNeg, Int.reduceLT, Int.reduceLE, Int.reduceEq, reduceCtorEq]) rfl (by simp only [go_sem, Nat.reduceLT, Nat.reduceEqDiff, Nat.reduceAdd, Nat.reduceMul, Nat.reduceSub, Nat.reduceLeDiff, Int.reduceToNat, Int.reduceNeg, Int.reduceLT, Int.reduceLE, Int.reduceEq, reduceCtorEq]; exact o3) (k2.via k3 (fun b hb => by have := ow2.ge hb; omega)) (Nat.le_trans hl2 k3.len) (k3.get h0 (fun e => by have := ow2.ge e; omega)) (k3.get h1 (fun e => by have := ow2.ge e; omega))
  · rw [if_neg he] at back
    repeat' (first | simp only [go_sem, Nat.reduceLT, Nat.reduceEqDiff, Nat.reduceAdd, Nat.reduceMul, Nat.reduceSub, Nat.reduceLeDiff, Int.reduceToNat, Int.reduceNeg, Int.reduceLT, Int.reduceLE, Int.reduceEq, reduceCtorEq, Int.natCast_zero, Int.natCast_one, Int.cast_ofNat_Int, Bool.not_not, false_eq_decide, true_eq_decide, hread0, hreadk, read_cons0, read_consk, astore_h0, astore_hk, hget0, hgetk, hset0, hsetk, hlen, hcat, Nat.add_assoc, Nat.add_zero, Nat.zero_add, List.length_append, and_true, true_and, AV.flat, g0, get_app g0, read_get g0, read_app g0, hvo, one_solid hvo, one_cells hvo, hwo, one_solid hwo, one_cells hwo, *, -hK, -hv, -hm, -ow, -kJ, -hJl, -rd, -back, -hmr, -g1, -hm1, -hp1] | refine WC.call (rd _) ?_ | with_reducible refine IfB_dec (fun h => ?_) (fun h => ?_) | with_reducible refine Guard_dec (fun h => ?_) (fun h => ?_) | with_reducible refine Guard_ndec (fun h => ?_) (fun h => ?_) | with_reducible refine Guard_not (fun h => ?_) (fun h => ?_) | with_reducible refine IfB_ndec (fun h => ?_) (fun h => ?_) | with_reducible refine IfB_not (fun h => ?_) (fun h => ?_) | with_reducible refine Guard_split (fun h => ?_) (fun h => ?_) | with_reducible refine IfB_split (fun h => ?_) (fun h => ?_))
    refine WX_rows hT hmix [(0, none), (1, none), (2, none), (3, none), (4, none), (5, none), (11, none), (6, some [false, true, true, true, true, true, true]), (7, none), (8, none), (9, none), (10, none), (12, some [false, false, true, true, true, true, true, true, true, true, true, true]), (13, none), (14, none)] (by kernel_rfl) ?_
    repeat' (first | simp only [go_sem, Nat.reduceLT, Nat.reduceEqDiff, Nat.reduceAdd, Nat.reduceMul, Nat.reduceSub, Nat.reduceLeDiff, Int.reduceToNat, Int.reduceNeg, Int.reduceLT, Int.reduceLE, Int.reduceEq, reduceCtorEq, Int.natCast_zero, Int.natCast_one, Int.cast_ofNat_Int, Bool.not_not, false_eq_decide, true_eq_decide, hread0, hreadk, read_cons0, read_consk, astore_h0, astore_hk, hget0, hgetk, hset0, hsetk, hlen, hcat, Nat.add_assoc, Nat.add_zero, Nat.zero_add, List.length_append, and_true, true_and, AV.flat, g0, get_app g0, read_get g0, read_app g0, hvo, one_solid hvo, one_cells hvo, hwo, one_solid hwo, one_cells hwo, *, -hK, -hv, -hm, -ow, -kJ, -hJl, -rd, -back, -hmr, -g1, -hm1, -hp1] | refine WC.call (rd _) ?_ | with_reducible refine IfB_dec (fun h => ?_) (fun h => ?_) | with_reducible refine Guard_dec (fun h => ?_) (fun h => ?_) | with_reducible refine Guard_ndec (fun h => ?_) (fun h => ?_) | with_reducible refine Guard_not (fun h => ?_) (fun h => ?_) | with_reducible refine IfB_ndec (fun h => ?_) (fun h => ?_) | with_reducible refine IfB_not (fun h => ?_) (fun h => ?_) | with_reducible refine Guard_split (fun h => ?_) (fun h => ?_) | with_reducible refine IfB_split (fun h => ?_) (fun h => ?_))
    exact back _ _ _ (by (repeat (first | exact hs | refine hA _ _ _ (by decide) ?_))) (by simp only [go_sem, Nat.reduceLT, Nat.reduceEqDiff, Nat.reduceAdd, Nat.reduceMul, Nat.reduceSub, Nat.reduceLeDiff, Int.reduceToNat, Int.reduceNeg, Int.reduceLT, Int.reduceLE, Int.reduceEq, reduceCtorEq]) rfl (by simp only [go_sem, Nat.reduceLT, Nat.reduceEqDiff, Nat.reduceAdd, Nat.reduceMul, Nat.reduceSub, Nat.reduceLeDiff, Int.reduceToNat, Int.reduceNeg, Int.reduceLT, Int.reduceLE, Int.reduceEq, reduceCtorEq]; rw [f8]; exact ow.keep0 (Keep.app _ _ _)) (kJ.trans (Keep.app _ _ _)) (by simp; omega) (get_app g0 _) (get_app g1 _)
end Go.Proofs.Ytccfhighlpfdmaa
