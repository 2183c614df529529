import Derived.Test.YtakllaigpjbgdaaLruK
set_option linter.unusedSimpArgs false
set_option linter.unusedVariables false
set_option maxRecDepth 100000
set_option maxHeartbeats 4000000
namespace Go.Proofs.Ytakllaigpjbgdaa
open Go Go.Proofs Go.Proofs.PI
def yo : Ord := ⟨[[99], [98], [97]], []⟩
def yx : Ord := hitO yo [97]
def yy : Ord := hitO yx [98]
def yz : Ord := hitO yy [99]
def yw : Ord := delO yz [99]
def yk : Ord := ⟨[], [[97], [98]]⟩
theorem yf1 : yo.fit := of_decide_eq_true (by kernel_rfl)
theorem yf2 : yx.fit := of_decide_eq_true (by kernel_rfl)
theorem yf3 : yy.fit := of_decide_eq_true (by kernel_rfl)
theorem yf4 : yz.fit := of_decide_eq_true (by kernel_rfl)
theorem yf5 : yw.fit := of_decide_eq_true (by kernel_rfl)
theorem ye1 : ofL ord0 [[97], [98], [99]] = (yo, true) := by kernel_rfl
theorem ye2 : vicE yo = 0 := by kernel_rfl
theorem ye3 : vicS yo = [97] := by kernel_rfl
theorem ye4 : allO yo = [[97], [98], [99]] := by kernel_rfl
theorem ye5 : ordE yo = 0 := by kernel_rfl
theorem ye6 : hitE yo [97] = 0 := by kernel_rfl
theorem ye7 : hitE yx [98] = 0 := by kernel_rfl
theorem ye8 : hitE yy [99] = 0 := by kernel_rfl
theorem ye9 : hitE yz [99] = 0 := by kernel_rfl
theorem yeA : hitE ord0 [97] = 6 := by kernel_rfl
theorem yeB : delO ord0 [97] = ord0 := by kernel_rfl
theorem yeC : addE yo [97] = 2 := by kernel_rfl
theorem yeD : addO yo [97] = ord0 := by kernel_rfl
theorem yeE : vicE ord0 = 6 := by kernel_rfl
theorem yeF : vicS ord0 = [] := by kernel_rfl
theorem yeG : addE yo [] = 3 := by kernel_rfl
theorem yeH : addO yo [] = ord0 := by kernel_rfl
theorem yeI : ordE yk = 8 := by kernel_rfl
theorem yeJ : (decide (yz.t.flatten = [97]) && decide (yz.k.flatten = [99, 98])) = true := by kernel_rfl
theorem yeK : (decide (yw.t.flatten = [97]) && decide (yw.k.flatten = [98])) = true := by kernel_rfl
theorem yb1 : yz.t.flatten.length + yz.k.flatten.length ≤ 1000000 := of_decide_eq_true (by kernel_rfl)
theorem yb2 : yw.t.flatten.length + yw.k.flatten.length ≤ 1000000 := of_decide_eq_true (by kernel_rfl)
theorem lruNames_walk (H : Heap) (avs : List AV) (h : InpAll T H 9 [] avs) : WC Try.prog 6 avs H fun v _ => v = .bool true := by
  obtain rfl := h.nil
  refine WC_of_K fun K hK => ?_
  have c1 := fun J => of_spec [[97], [98], [99]] (by simp) J
  have c2 := fun J => Victim_spec yo yf1 J
  have c3 := fun J => All_spec yo yf1 J
  have c4 := fun J => hit_spec yo yf1 [97] J
  have c5 := fun J => hit_spec yx yf2 [98] J
  have c6 := fun J => hit_spec yy yf3 [99] J
  have c7 := fun J => del_spec yz yf4 [99] J
  have c8 := fun J => nil_arg (del_spec ord0 (by decide) [97] J)
  have c9 := fun J => add_spec yo yf1 [97] J
  have cA := fun J => nil_arg (Victim_spec ord0 (by decide) J)
  have cB := fun J => add_spec yo yf1 [] J
  have cC := fun J => rows_spec yz yf4 yb1 [97] [99, 98] J
  have cD := fun J => rows_spec yw yf5 yb2 [97] [98] J
  have cE := fun J => check_spec yk (by decide) J
  have cF := fun J => sameTexts_spec [[97], [98], [99]] [[97], [98], [99]] (by simp) J
  rw [ye1] at c1
  rw [ye2, ye3] at c2
  rw [ye4, ye5] at c3
  rw [ye6, show hitO yo [97] = yx from rfl] at c4
  rw [ye7, show hitO yx [98] = yy from rfl] at c5
  rw [ye8, show hitO yy [99] = yz from rfl] at c6
  rw [ye9, show delO yz [99] = yw from rfl] at c7
  rw [yeA, yeB] at c8
  rw [yeC, yeD] at c9
  rw [yeE, yeF] at cA
  rw [yeG, yeH] at cB
  rw [yeJ] at cC
  rw [yeK] at cD
  rw [yeI] at cE
  rw [decide_eq_true rfl] at cF
  unfold Ord.av at c1 c2 c3 c4 c5 c6 c7 c8 c9 cB cC cD cE
  simp only at c1
  rw [show yk.t = [] from rfl, show yk.k = [[97], [98]] from rfl] at cE
  generalize yo = o1 at *
  generalize yx = o2 at *
  generalize yy = o3 at *
  generalize yz = o4 at *
  generalize yw = o5 at *
  generalize ord0 = o0 at *
  refine WC_of_body hT Try.func6 rfl (by simp [Try.f6]) (by simp [Try.f6]) (wx_sound hT _ ?_)
  simp only [Try.f6]
  repeat' (first | simp only [go_sem, Nat.reduceLT, Nat.reduceEqDiff, Nat.reduceAdd, Nat.reduceMul, Nat.reduceSub, Nat.reduceLeDiff, Int.reduceToNat, Int.reduceNeg, Int.reduceLT, Int.reduceLE, Int.reduceEq, reduceCtorEq, Int.natCast_zero, Int.natCast_one, Int.cast_ofNat_Int, Bool.not_not, false_eq_decide, true_eq_decide, hread0, hreadk, read_cons0, read_consk, astore_h0, astore_hk, hget0, hgetk, hset0, hsetk, hlen, hcat, Nat.add_assoc, Nat.add_zero, Nat.zero_add, List.length_append, and_true, true_and, AV.flat, *, -hK, -c1, -c2, -c3, -c4, -c5, -c6, -c7, -c8, -c9, -cA, -cB, -cC, -cD, -cE, -cF] | with_reducible refine IfB_dec (fun h => ?_) (fun h => ?_) | with_reducible refine Guard_dec (fun h => ?_) (fun h => ?_) | with_reducible refine Guard_ndec (fun h => ?_) (fun h => ?_) | with_reducible refine Guard_not (fun h => ?_) (fun h => ?_) | with_reducible refine IfB_ndec (fun h => ?_) (fun h => ?_) | with_reducible refine IfB_not (fun h => ?_) (fun h => ?_) | with_reducible refine Guard_split (fun h => ?_) (fun h => ?_) | with_reducible refine IfB_split (fun h => ?_) (fun h => ?_))
  refine WC_freezeE [Enc.str.lst [[97], [98], [99]]] (m := H.length) (E := Enc.str) (v := .sl H.length 0 3 none) (xs := [[97], [98], [99]]) (Own.whole (st := .full) (Nat.le_refl _) (by simp; exact ⟨rfl, rfl⟩) rfl rfl) (by decide) ⟨.here, trivial⟩ ?_
  intro G hF
  clear hF
  refine (c1 G).mono ?_
  rintro _ J9 ⟨rfl, hJ9⟩
  replace hJ9 := hJ9.symm
  subst hJ9
  repeat' (first | simp only [go_sem, Nat.reduceLT, Nat.reduceEqDiff, Nat.reduceAdd, Nat.reduceMul, Nat.reduceSub, Nat.reduceLeDiff, Int.reduceToNat, Int.reduceNeg, Int.reduceLT, Int.reduceLE, Int.reduceEq, reduceCtorEq, Int.natCast_zero, Int.natCast_one, Int.cast_ofNat_Int, Bool.not_not, false_eq_decide, true_eq_decide, hread0, hreadk, read_cons0, read_consk, astore_h0, astore_hk, hget0, hgetk, hset0, hsetk, hlen, hcat, Nat.add_assoc, Nat.add_zero, Nat.zero_add, List.length_append, and_true, true_and, AV.flat, *, -hK, -c1, -c2, -c3, -c4, -c5, -c6, -c7, -c8, -c9, -cA, -cB, -cC, -cD, -cE, -cF] | refine WC.call (c2 _) ?_ | refine WC.call (c3 _) ?_ | refine WC.call (c4 _) ?_ | refine WC.call (c5 _) ?_ | refine WC.call (c6 _) ?_ | refine WC.call (c7 _) ?_ | refine WC.call (c8 _) ?_ | refine WC.call (c9 _) ?_ | refine WC.call (cA _) ?_ | refine WC.call (cB _) ?_ | refine WC.call (alive_spec _) ?_ | with_reducible refine IfB_dec (fun h => ?_) (fun h => ?_) | with_reducible refine Guard_dec (fun h => ?_) (fun h => ?_) | with_reducible refine Guard_ndec (fun h => ?_) (fun h => ?_) | with_reducible refine Guard_not (fun h => ?_) (fun h => ?_) | with_reducible refine IfB_ndec (fun h => ?_) (fun h => ?_) | with_reducible refine IfB_not (fun h => ?_) (fun h => ?_) | with_reducible refine Guard_split (fun h => ?_) (fun h => ?_) | with_reducible refine IfB_split (fun h => ?_) (fun h => ?_))
  refine WC_freezeE [Enc.str.lst [[97], [98], [99]], Enc.str.lst [[97], [98], [99]]] (m := G.length) (E := Enc.str) (v := .sl (G.length + 8) 0 3 none) (xs := [[97], [98], [99]]) (Own.whole (st := .full) (by omega) (by rw [hgetk]; rfl) rfl rfl) (by decide) ⟨.same _, .here, trivial⟩ ?_
  intro G2 hF
  have z4 : G2[G.length + 3]? = some (⟨[Enc.str.lst o4.t, Enc.str.lst o4.k], 0, .full⟩ : Blk) := by rw [hF.other _ (by simp only [AV.blk, ne_eq, Option.some.injEq]; omega), hgetk]; rfl
  have z5 : G2[G.length + 4]? = some (⟨[Enc.str.lst o5.t, Enc.str.lst o5.k], 0, .full⟩ : Blk) := by rw [hF.other _ (by simp only [AV.blk, ne_eq, Option.some.injEq]; omega), hgetk]; rfl
  clear hF c1 c2 c3 c4 c5 c6 c7 c8 c9 cA cB
  refine (cF G2).mono ?_
  rintro _ J9 ⟨rfl, hJ9⟩
  replace hJ9 := hJ9.symm
  subst hJ9
  repeat' (first | simp only [go_sem, Nat.reduceLT, Nat.reduceEqDiff, Nat.reduceAdd, Nat.reduceMul, Nat.reduceSub, Nat.reduceLeDiff, Int.reduceToNat, Int.reduceNeg, Int.reduceLT, Int.reduceLE, Int.reduceEq, reduceCtorEq, Int.natCast_zero, Int.natCast_one, Int.cast_ofNat_Int, Bool.not_not, false_eq_decide, true_eq_decide, hread0, hreadk, read_cons0, read_consk, astore_h0, astore_hk, hget0, hgetk, hset0, hsetk, hlen, hcat, Nat.add_assoc, Nat.add_zero, Nat.zero_add, List.length_append, and_true, true_and, AV.flat, z4, get_app z4, read_get z4, read_app z4, z5, get_app z5, read_get z5, read_app z5, *, -hK, -cC, -cD, -cE, -cF] | refine WC.call (cC _) ?_ | refine WC.call (cD _) ?_ | with_reducible refine IfB_dec (fun h => ?_) (fun h => ?_) | with_reducible refine Guard_dec (fun h => ?_) (fun h => ?_) | with_reducible refine Guard_ndec (fun h => ?_) (fun h => ?_) | with_reducible refine Guard_not (fun h => ?_) (fun h => ?_) | with_reducible refine IfB_ndec (fun h => ?_) (fun h => ?_) | with_reducible refine IfB_not (fun h => ?_) (fun h => ?_) | with_reducible refine Guard_split (fun h => ?_) (fun h => ?_) | with_reducible refine IfB_split (fun h => ?_) (fun h => ?_))
  refine WC_freezeE [.agg [.nils, Enc.str.lst [[97], [98]]]] (m := 0) (E := Enc.str) (v := .sl G2.length 0 2 none) (xs := [[97], [98]]) (Own.whole (st := .full) (by omega) (by simp; exact ⟨rfl, rfl⟩) rfl rfl) (by decide) ⟨FrzR.agg [.nils, .sl G2.length 0 2 none] [.nils, Enc.str.lst [[97], [98]]] rfl (FrzR.row (l := [.nils, .sl G2.length 0 2 none]) (l' := [.nils, Enc.str.lst [[97], [98]]]) ⟨.same _, .here, trivial⟩).2, trivial⟩ ?_
  intro G3 hF3
  clear hF3
  refine WC_freezeE [.agg [Enc.str.lst [], Enc.str.lst [[97], [98]]]] (m := 0) (E := Enc.str) (v := .nils) (xs := []) (OwnE.nils _ _ _) (by decide) ⟨FrzR.agg [.nils, Enc.str.lst [[97], [98]]] [Enc.str.lst [], Enc.str.lst [[97], [98]]] rfl (FrzR.row (l := [.nils, Enc.str.lst [[97], [98]]]) (l' := [Enc.str.lst [], Enc.str.lst [[97], [98]]]) ⟨.here, .same _, trivial⟩).2, trivial⟩ ?_
  intro G4 hF4
  clear hF4
  refine (cE G4).mono ?_
  rintro _ J9 ⟨rfl, rfl⟩
  repeat' (first | simp only [go_sem, Nat.reduceLT, Nat.reduceEqDiff, Nat.reduceAdd, Nat.reduceMul, Nat.reduceSub, Nat.reduceLeDiff, Int.reduceToNat, Int.reduceNeg, Int.reduceLT, Int.reduceLE, Int.reduceEq, reduceCtorEq, Int.natCast_zero, Int.natCast_one, Int.cast_ofNat_Int, Bool.not_not, false_eq_decide, true_eq_decide, hread0, hreadk, read_cons0, read_consk, astore_h0, astore_hk, hget0, hgetk, hset0, hsetk, hlen, hcat, Nat.add_assoc, Nat.add_zero, Nat.zero_add, List.length_append, and_true, true_and, AV.flat, *, -hK, -cC, -cD, -cE, -cF] | with_reducible refine IfB_dec (fun h => ?_) (fun h => ?_) | with_reducible refine Guard_dec (fun h => ?_) (fun h => ?_) | with_reducible refine Guard_ndec (fun h => ?_) (fun h => ?_) | with_reducible refine Guard_not (fun h => ?_) (fun h => ?_) | with_reducible refine IfB_ndec (fun h => ?_) (fun h => ?_) | with_reducible refine IfB_not (fun h => ?_) (fun h => ?_) | with_reducible refine Guard_split (fun h => ?_) (fun h => ?_) | with_reducible refine IfB_split (fun h => ?_) (fun h => ?_))
  exact hK _ _ rfl
end Go.Proofs.Ytakllaigpjbgdaa
