import Derived.Test.YtakllaigpjbgdaaLruT2
set_option linter.unusedSimpArgs false
set_option linter.unusedVariables false
set_option maxRecDepth 100000
set_option maxHeartbeats 4000000
namespace Go.Proofs.Ytakllaigpjbgdaa
open Go Go.Proofs Go.Proofs.PI
theorem rLevel_spec (o : Ord) (hf2 : o.t.length + o.k.length ≤ 4000) (H : Heap) : WC Try.prog 43 [o.av] H fun r H' => r = (levelO o).av ∧ H' = H := by
  refine WC_val fun K hK => ?_
  have hh : ∀ z, z ≤ o.k.length → (z + ((o.k.drop z ++ o.t).length) + 1) / 2 = halfN o := fun z hz => by
    unfold halfN; rw [List.length_append, List.length_drop]
    rw [show z + (o.k.length - z + o.t.length) + 1 = o.t.length + o.k.length + 1 by omega]
  unfold Ord.av at *
  refine WC_of_body hT Try.func43 rfl (by simp [Try.f43]) (by simp [Try.f43]) (wx_sound hT _ ?_)
  simp only [Try.f43]
  repeat' (first | simp only [go_sem, Nat.reduceLT, Nat.reduceEqDiff, Nat.reduceAdd, Nat.reduceMul, Nat.reduceSub, Nat.reduceLeDiff, Int.reduceToNat, Int.reduceNeg, Int.reduceLT, Int.reduceLE, Int.reduceEq, reduceCtorEq, Int.natCast_zero, Int.natCast_one, Int.cast_ofNat_Int, Bool.not_not, false_eq_decide, true_eq_decide, hread0, hreadk, read_cons0, read_consk, astore_h0, astore_hk, hget0, hgetk, hset0, hsetk, hlen, hcat, Nat.add_assoc, Nat.add_zero, Nat.zero_add, List.length_append, and_true, true_and, AV.flat, *, -hK, -hh] | with_reducible refine IfB_dec (fun h => ?_) (fun h => ?_) | with_reducible refine Guard_dec (fun h => ?_) (fun h => ?_) | with_reducible refine Guard_ndec (fun h => ?_) (fun h => ?_) | with_reducible refine Guard_not (fun h => ?_) (fun h => ?_) | with_reducible refine IfB_ndec (fun h => ?_) (fun h => ?_) | with_reducible refine IfB_not (fun h => ?_) (fun h => ?_) | with_reducible refine Guard_split (fun h => ?_) (fun h => ?_) | with_reducible refine IfB_split (fun h => ?_) (fun h => ?_))
  have kG : Keep none H (H ++ [(⟨[Enc.str.lst o.t, Enc.str.lst o.k], 0, .full⟩ : Blk), (⟨[.nils, .nils], 0, .full⟩ : Blk)]) := Keep.app _ _ _
  have g0 : (H ++ [(⟨[Enc.str.lst o.t, Enc.str.lst o.k], 0, .full⟩ : Blk), (⟨[.nils, .nils], 0, .full⟩ : Blk)])[H.length]? = some ⟨[Enc.str.lst o.t, Enc.str.lst o.k], 0, .full⟩ := by rw [hget0]; rfl
  have g1 : (H ++ [(⟨[Enc.str.lst o.t, Enc.str.lst o.k], 0, .full⟩ : Blk), (⟨[.nils, .nils], 0, .full⟩ : Blk)])[H.length + 1]? = some ⟨[.nils, .nils], 0, .full⟩ := by rw [hgetk]; rfl
  have hG2 : H.length + 2 ≤ (H ++ [(⟨[Enc.str.lst o.t, Enc.str.lst o.k], 0, .full⟩ : Blk), (⟨[.nils, .nils], 0, .full⟩ : Blk)]).length := by simp
  generalize (H ++ [(⟨[Enc.str.lst o.t, Enc.str.lst o.k], 0, .full⟩ : Blk), (⟨[.nils, .nils], 0, .full⟩ : Blk)] : Heap) = G at *
  refine WX_loopS [1, 2] (fun kn fr' J => ∃ (z : Nat) (a2 : AV), kn = z ∧ z ≤ o.k.length ∧ min (halfN o) o.k.length ≤ z ∧ J[H.length]? = some ⟨[Enc.str.lst (o.k.drop z ++ o.t), a2], 0, .full⟩ ∧ J[H.length + 1]? = some ⟨[.nils, .nils], 0, .full⟩ ∧ Keep none H J ∧ H.length + 2 ≤ J.length ∧ (a2 = Enc.str.lst (o.k.take z) ∨ OwnE Enc.str (H.length + 2) J a2 (o.k.take z))) o.k.length ⟨o.k.length, _, rfl, Nat.le_refl _, Nat.min_le_right _ _, by rw [List.drop_length]; exact g0, g1, kG, hG2, .inl (by rw [List.take_length])⟩ ?_
  clear g0 g1 kG hG2
  rintro kn fr' J A R hA hs hg hR ⟨z, a2, rfl, hz, hmin, gq, g1, kJ, hJ2, ha2⟩
  have s1 := hg 1 (by decide)
  have s2 := hg 2 (by decide)
  simp only [Fr.get_put, Fr.get_init, List.getD_cons_zero, List.getD_cons_succ, Nat.reduceEqDiff, if_true, if_false] at s1 s2
  suffices hmain : ∀ J, J[H.length]? = some ⟨[Enc.str.lst (o.k.drop kn ++ o.t), Enc.str.lst (o.k.take kn)], 0, .full⟩ → J[H.length + 1]? = some ⟨[.nils, .nils], 0, .full⟩ → Keep none H J → H.length + 2 ≤ J.length → WX Try.prog _ _ fr' J _ by
    rcases ha2 with rfl | ow
    · exact hmain J gq g1 kJ hJ2
    · refine WX_freeze (n := kn) ow (Enc.row_flat _) (by rw [Enc.row_length, List.length_take, Nat.min_eq_left hz]) (by decide) gq (fun e => by have := ow.ge e; omega) (C := ⟨[Enc.str.lst (o.k.drop kn ++ o.t), Enc.str.lst (o.k.take kn)], 0, .full⟩) rfl rfl ⟨.inl rfl, .inr ⟨rfl, by unfold Enc.lst; simp; omega⟩, trivial⟩ fun G hl hq hk => ?_
      exact hmain G hq (by rw [hk _ (fun e => by have := ow.ge e; omega) (by omega)]; exact g1) ⟨by rw [hl]; exact kJ.len, fun b hb _ => by rw [hk b (fun e => by have := ow.ge e; omega) (by omega)]; exact kJ.at_ b hb (by simp)⟩ (by omega)
  clear ha2 hJ2 kJ g1 gq J
  intro J gq g1 kJ hJ2
  refine wx_sound hT _ ?_
  have hh := hh kn hz
  have hkl : (o.k.take kn).length = kn := by rw [List.length_take]; omega
  have hdl : (o.k.drop kn ++ o.t).length ≤ 4000 := by rw [List.length_append, List.length_drop]; omega
  obtain ⟨N, hN⟩ : ∃ N : Nat, N = kn + (o.k.drop kn ++ o.t).length := ⟨_, rfl⟩
  obtain ⟨M, hM⟩ : ∃ M : Nat, M = N + 1 := ⟨_, rfl⟩
  have w1 : IntKind.i64.wrap ((kn : Int) + ((o.k.drop kn ++ o.t).length : Nat)) = (N : Int) := by rw [IntKind.wrap_i64]; omega
  have w2 : IntKind.i64.wrap ((N : Int) + 1) = (M : Int) := by rw [IntKind.wrap_i64]; omega
  have w3 : Int.tdiv (M : Int) 2 = (halfN o : Nat) := by
    rw [← hh, hM, hN]
    exact (Int.ofNat_tdiv _ _).symm
  have w4 : IntKind.i64.wrap ((halfN o : Nat) : Int) = (halfN o : Nat) := by rw [IntKind.wrap_i64]; unfold halfN; omega
  by_cases hgt : (kn : Int) > halfN o
  rotate_left
  · have e : levelO o = ⟨o.k.drop kn ++ o.t, o.k.take kn⟩ := by
      unfold levelO
      have e : o.k.drop (halfN o) = o.k.drop kn ∧ o.k.take (halfN o) = o.k.take kn := by
        by_cases h : halfN o = kn
        · rw [h]; exact ⟨rfl, rfl⟩
        · have h1 : kn = o.k.length := by omega
          have h2 : o.k.length ≤ halfN o := by omega
          rw [h1, List.drop_of_length_le h2, List.drop_length, List.take_of_length_le h2, List.take_length]; exact ⟨rfl, rfl⟩
      rw [e.1, e.2]
    rw [e] at hK
    simp only at hK
    clear hR e
    generalize o.k.drop kn ++ o.t = l1 at *
    generalize o.k.take kn = l2 at *
    have kF : Keep none H (List.set J (H.length + 1) ⟨[Enc.str.lst l1, Enc.str.lst l2], 0, .full⟩) := ⟨by rw [List.length_set]; omega, fun b hb _ => by rw [List.getElem?_set_ne (by omega)]; exact kJ.at_ b hb (by simp)⟩
    repeat' (first | simp only [go_sem, Nat.reduceLT, Nat.reduceEqDiff, Nat.reduceAdd, Nat.reduceMul, Nat.reduceSub, Nat.reduceLeDiff, Int.reduceToNat, Int.reduceNeg, Int.reduceLT, Int.reduceLE, Int.reduceEq, reduceCtorEq, Int.natCast_zero, Int.natCast_one, Int.cast_ofNat_Int, Bool.not_not, false_eq_decide, true_eq_decide, hread0, hreadk, read_cons0, read_consk, astore_h0, astore_hk, hget0, hgetk, hset0, hsetk, hlen, hcat, Nat.add_assoc, Nat.add_zero, Nat.zero_add, List.length_append, and_true, true_and, AV.flat, gq, get_app gq, read_get gq, read_app gq, g1, get_app g1, read_get g1, read_app g1, astore_get g1, astore_app g1, get_set g1, get_set_app g1, read_set g1, read_set_app g1, astore_set g1, astore_set_app g1, List.set_set, hget0s, hgetks, hread0s, hreadks, List.length_set, *, -hK, -hh, -kJ, -hJ2, -hdl, -hmin, -kF, -hz, -hN, -hM] | with_reducible refine IfB_dec (fun h => ?_) (fun h => ?_) | with_reducible refine Guard_dec (fun h => ?_) (fun h => ?_) | with_reducible refine Guard_ndec (fun h => ?_) (fun h => ?_) | with_reducible refine Guard_not (fun h => ?_) (fun h => ?_) | with_reducible refine IfB_ndec (fun h => ?_) (fun h => ?_) | with_reducible refine IfB_not (fun h => ?_) (fun h => ?_) | with_reducible refine Guard_split (fun h => ?_) (fun h => ?_) | with_reducible refine IfB_split (fun h => ?_) (fun h => ?_))
    exact hK _ _ (Thaw.agg_row ⟨.atom _ rfl, .atom _ rfl, trivial⟩) kF
  obtain ⟨p, rfl⟩ : ∃ p, kn = p + 1 := ⟨kn - 1, by omega⟩
  have w18 : IntKind.i64.wrap (((p + 1 : Nat) : Int) - 1) = p := by rw [IntKind.wrap_i64]; omega
  have hpk : p < (o.k.take (p + 1)).length := by omega
  have hpk2 : p < o.k.length := by omega
  have e7 := at_enc (E := Enc.str) (T := T) (k := .i64) (z := (p : Int)) se22 hpk rfl
  rw [str_cells] at e7
  simp only [List.getElem_take] at e7
  have e5 := slice_enc (E := Enc.str) (T := T) (H := J) (xs := o.k.take (p + 1)) se22 (lo := none) (hi := some (.int .i64 p)) (l := 0) (u := p) rfl (abound_nat p rfl) (Nat.zero_le _) (by omega)
  rw [List.drop_zero, List.take_take, Nat.min_eq_left (by omega)] at e5
  have back : ∀ fr2 J2 a2, A fr2 → J2[H.length]? = some ⟨[Enc.str.lst (o.k[p] :: (o.k.drop (p + 1) ++ o.t)), a2], 0, .full⟩ → J2[H.length + 1]? = some ⟨[.nils, .nils], 0, .full⟩ → Keep none H J2 → H.length + 2 ≤ J2.length → OwnE Enc.str (H.length + 2) J2 a2 (o.k.take p) → R fr2 J2 := fun fr2 J2 a2 ha q1 q2 q3 q4 q5 => hR fr2 J2 ha p (by omega) ⟨p, a2, rfl, by omega, by omega, by rw [List.drop_eq_getElem_cons hpk2]; exact q1, q2, q3, q4, .inr q5⟩
  have hpl : (o.k.take p).length ≤ 4000 := by rw [List.length_take]; omega
  have fr := fun J => rFirst_spec o.k[p] (o.k.drop (p + 1) ++ o.t) (by omega) J
  clear hR hh
  generalize o.k[p] = s at *
  generalize o.k.drop (p + 1) ++ o.t = l1 at *
  generalize o.k.take (p + 1) = l2 at *
  generalize o.k.take p = l3 at *
  repeat' (first | simp only [go_sem, Nat.reduceLT, Nat.reduceEqDiff, Nat.reduceAdd, Nat.reduceMul, Nat.reduceSub, Nat.reduceLeDiff, Int.reduceToNat, Int.reduceNeg, Int.reduceLT, Int.reduceLE, Int.reduceEq, reduceCtorEq, Int.natCast_zero, Int.natCast_one, Int.cast_ofNat_Int, Bool.not_not, false_eq_decide, true_eq_decide, hread0, hreadk, read_cons0, read_consk, astore_h0, astore_hk, hget0, hgetk, hset0, hsetk, hlen, hcat, Nat.add_assoc, Nat.add_zero, Nat.zero_add, List.length_append, and_true, true_and, AV.flat, gq, get_app gq, read_get gq, read_app gq, *, -hK, -kJ, -hJ2, -hdl, -hmin, -hz, -hN, -hM, -back, -fr, -hpk, -hpk2, -hpl] | with_reducible refine IfB_dec (fun h => ?_) (fun h => ?_) | with_reducible refine Guard_dec (fun h => ?_) (fun h => ?_) | with_reducible refine Guard_ndec (fun h => ?_) (fun h => ?_) | with_reducible refine Guard_not (fun h => ?_) (fun h => ?_) | with_reducible refine IfB_ndec (fun h => ?_) (fun h => ?_) | with_reducible refine IfB_not (fun h => ?_) (fun h => ?_) | with_reducible refine Guard_split (fun h => ?_) (fun h => ?_) | with_reducible refine IfB_split (fun h => ?_) (fun h => ?_))
  refine WX_rows hT hmix [(0, none), (1, none), (2, none), (3, none), (4, none), (5, none), (6, none), (8, none), (9, none), (10, none), (11, none), (7, some [false, false, false, false, true, true, true, true, true, true, true]), (12, some [true, true, true, true, true, true, true, true, true, true, true, true]), (13, none), (14, some [true, true, true, true, true, true, true, true, true, true, true, true, true, true])] (by kernel_rfl) ?_
  repeat' (first | simp only [go_sem, Nat.reduceLT, Nat.reduceEqDiff, Nat.reduceAdd, Nat.reduceMul, Nat.reduceSub, Nat.reduceLeDiff, Int.reduceToNat, Int.reduceNeg, Int.reduceLT, Int.reduceLE, Int.reduceEq, reduceCtorEq, Int.natCast_zero, Int.natCast_one, Int.cast_ofNat_Int, Bool.not_not, false_eq_decide, true_eq_decide, hread0, hreadk, read_cons0, read_consk, astore_h0, astore_hk, hget0, hgetk, hset0, hsetk, hlen, hcat, Nat.add_assoc, Nat.add_zero, Nat.zero_add, List.length_append, and_true, true_and, AV.flat, gq, get_app gq, read_get gq, read_app gq, *, -hK, -kJ, -hJ2, -hdl, -hmin, -hz, -hN, -hM, -back, -fr, -hpk, -hpk2, -hpl] | refine WC.call (fr _) ?_ | with_reducible refine IfB_dec (fun h => ?_) (fun h => ?_) | with_reducible refine Guard_dec (fun h => ?_) (fun h => ?_) | with_reducible refine Guard_ndec (fun h => ?_) (fun h => ?_) | with_reducible refine Guard_not (fun h => ?_) (fun h => ?_) | with_reducible refine IfB_ndec (fun h => ?_) (fun h => ?_) | with_reducible refine IfB_not (fun h => ?_) (fun h => ?_) | with_reducible refine Guard_split (fun h => ?_) (fun h => ?_) | with_reducible refine IfB_split (fun h => ?_) (fun h => ?_))
  refine append_enc (E := Enc.str) (xs := []) (ys := l3) (m := H.length + 2) (OwnE.nils _ _ _) se22 az9 td9 (src_enc tk22) (by decide) (by show (0 + l3.length) * 17 ≤ _; omega) hJ2 ?_
  intro v1 J1 o1 k1 hn1
  rw [List.nil_append] at o1
  have gq1 := k1.get gq (by simp [AV.blk])
  have g11 := k1.get g1 (by simp [AV.blk])
  have hv1 := o1.one
  have hl1 := k1.len
  have o1' : OwnE Enc.str (H.length + 2) (List.set J1 H.length ⟨[Enc.str.lst (s :: l1), v1], 0, .full⟩) v1 l3 := own_same o1 fun b hb => List.getElem?_set_ne fun e => by have := o1.ge hb; omega
  have kF : Keep none H (List.set J1 H.length ⟨[Enc.str.lst (s :: l1), v1], 0, .full⟩) := ⟨by rw [List.length_set]; omega, fun b hb _ => by rw [List.getElem?_set_ne (by omega), k1.at_ b (by omega) (by simp [AV.blk])]; exact kJ.at_ b hb (by simp)⟩
  repeat' (first | simp only [go_sem, Nat.reduceLT, Nat.reduceEqDiff, Nat.reduceAdd, Nat.reduceMul, Nat.reduceSub, Nat.reduceLeDiff, Int.reduceToNat, Int.reduceNeg, Int.reduceLT, Int.reduceLE, Int.reduceEq, reduceCtorEq, Int.natCast_zero, Int.natCast_one, Int.cast_ofNat_Int, Bool.not_not, false_eq_decide, true_eq_decide, hread0, hreadk, read_cons0, read_consk, astore_h0, astore_hk, hget0, hgetk, hset0, hsetk, hlen, hcat, Nat.add_assoc, Nat.add_zero, Nat.zero_add, List.length_append, and_true, true_and, AV.flat, gq1, get_app gq1, read_get gq1, read_app gq1, gq1, get_app gq1, read_get gq1, read_app gq1, astore_get gq1, astore_app gq1, get_set gq1, get_set_app gq1, read_set gq1, read_set_app gq1, astore_set gq1, astore_set_app gq1, List.set_set, hget0s, hgetks, hread0s, hreadks, List.length_set, hv1, one_solid hv1, one_cells hv1, *, -hK, -kJ, -hJ2, -hdl, -hmin, -hz, -hN, -hM, -back, -fr, -hpk, -hpk2, -hpl, -o1, -k1, -hn1, -g11, -hl1, -kF] | with_reducible refine IfB_dec (fun h => ?_) (fun h => ?_) | with_reducible refine Guard_dec (fun h => ?_) (fun h => ?_) | with_reducible refine Guard_ndec (fun h => ?_) (fun h => ?_) | with_reducible refine Guard_not (fun h => ?_) (fun h => ?_) | with_reducible refine IfB_ndec (fun h => ?_) (fun h => ?_) | with_reducible refine IfB_not (fun h => ?_) (fun h => ?_) | with_reducible refine Guard_split (fun h => ?_) (fun h => ?_) | with_reducible refine IfB_split (fun h => ?_) (fun h => ?_))
  exact back _ _ _ (by (repeat (first | exact hs | refine hA _ _ _ (by decide) ?_))) (List.getElem?_set_self (by omega)) (by rw [List.getElem?_set_ne (by omega)]; exact g11) kF (by rw [List.length_set]; omega) o1'
end Go.Proofs.Ytakllaigpjbgdaa
