import Derived.Test.YtakllaigpjbgdaaLruT6
set_option linter.unusedSimpArgs false
set_option linter.unusedVariables false
set_option maxRecDepth 100000
set_option maxHeartbeats 4000000
namespace Go.Proofs.Ytakllaigpjbgdaa
open Go Go.Proofs Go.Proofs.PI
theorem lruTurns_walk (avs : List AV) (h : InpPAll T 9 [24, 9] avs) : WC Try.prog 7 avs [] fun v _ => v = .bool true := by
  obtain ⟨a0, _, rfl, h0, h⟩ := h.cons
  obtain ⟨a1, _, rfl, h1, h⟩ := h.cons
  obtain rfl := h.nil
  obtain ⟨o, rfl, hi1, hi2⟩ := inp_ord h0
  obtain ⟨key, rfl, -⟩ := InpPV.str tk9 h1
  clear h0 h1 h
  generalize ([] : Heap) = H
  refine WC_of_K fun K hK => ?_
  have gr := fun J => great_spec o hi1 hi2 J
  have tw := fun hf J => rTwin_spec o hf J
  have ad := fun hf J => add_own o hf key J
  have ht := fun hf J => hit_own o hf key J
  have dl := fun hf J => del_own o hf key J
  have rad := fun hf J => rAdd_spec o hf key J
  have rht := fun hf J => rHit_spec o hf key J
  have rdl := fun hf J => rDel_spec o hf key J
  have vc := fun hf J => Victim_spec o hf J
  have rvc := fun hf J => rVictim_spec o hf J
  have all := fun hf J => All_spec o hf J
  have rall := fun hf J => rAll_spec o hf J
  have ck := fun hf J => check_spec o hf J
  have rck := fun hf J => rCheck_spec o hf J
  unfold Ord.av at gr tw ad ht dl rad rht rdl vc rvc all rall ck rck
  unfold Ord.av
  refine WC_of_body hT Try.func7 rfl (by simp [Try.f7]) (by simp [Try.f7]) (wx_sound hT _ ?_)
  simp only [Try.f7]
  repeat' (first | simp only [go_sem, Nat.reduceLT, Nat.reduceEqDiff, Nat.reduceAdd, Nat.reduceMul, Nat.reduceSub, Nat.reduceLeDiff, Int.reduceToNat, Int.reduceNeg, Int.reduceLT, Int.reduceLE, Int.reduceEq, reduceCtorEq, Int.natCast_zero, Int.natCast_one, Int.cast_ofNat_Int, Bool.not_not, false_eq_decide, true_eq_decide, hread0, hreadk, read_cons0, read_consk, astore_h0, astore_hk, hget0, hgetk, hset0, hsetk, hlen, hcat, Nat.add_assoc, Nat.add_zero, Nat.zero_add, List.length_append, and_true, true_and, AV.flat, *, -hK, -gr, -tw, -ad, -ht, -dl, -rad, -rht, -rdl, -vc, -rvc, -all, -rall, -ck, -rck, -hi1, -hi2] | refine WC.call (alive_spec _) ?_ | with_reducible refine IfB_dec (fun h => ?_) (fun h => ?_) | with_reducible refine Guard_dec (fun h => ?_) (fun h => ?_) | with_reducible refine Guard_ndec (fun h => ?_) (fun h => ?_) | with_reducible refine Guard_not (fun h => ?_) (fun h => ?_) | with_reducible refine IfB_ndec (fun h => ?_) (fun h => ?_) | with_reducible refine IfB_not (fun h => ?_) (fun h => ?_) | with_reducible refine Guard_split (fun h => ?_) (fun h => ?_) | with_reducible refine IfB_split (fun h => ?_) (fun h => ?_))
  refine (gr _).mono ?_
  rintro r1 H1 ⟨⟨bl, rfl, hbl⟩, rfl⟩
  clear gr
  cases bl with
  | true =>
    repeat' (first | simp only [go_sem, Nat.reduceLT, Nat.reduceEqDiff, Nat.reduceAdd, Nat.reduceMul, Nat.reduceSub, Nat.reduceLeDiff, Int.reduceToNat, Int.reduceNeg, Int.reduceLT, Int.reduceLE, Int.reduceEq, reduceCtorEq, Int.natCast_zero, Int.natCast_one, Int.cast_ofNat_Int, Bool.not_not, false_eq_decide, true_eq_decide, hread0, hreadk, read_cons0, read_consk, astore_h0, astore_hk, hget0, hgetk, hset0, hsetk, hlen, hcat, Nat.add_assoc, Nat.add_zero, Nat.zero_add, List.length_append, and_true, true_and, AV.flat, *, -hK, -tw, -ad, -ht, -dl, -rad, -rht, -rdl, -vc, -rvc, -all, -rall, -ck, -rck, -hi1, -hi2, -hbl] | with_reducible refine IfB_dec (fun h => ?_) (fun h => ?_) | with_reducible refine Guard_dec (fun h => ?_) (fun h => ?_) | with_reducible refine Guard_ndec (fun h => ?_) (fun h => ?_) | with_reducible refine Guard_not (fun h => ?_) (fun h => ?_) | with_reducible refine IfB_ndec (fun h => ?_) (fun h => ?_) | with_reducible refine IfB_not (fun h => ?_) (fun h => ?_) | with_reducible refine Guard_split (fun h => ?_) (fun h => ?_) | with_reducible refine IfB_split (fun h => ?_) (fun h => ?_))
    exact hK _ _ rfl
  | false =>
  obtain ⟨hl1, hl2⟩ := hbl rfl
  have hf : o.fit := ⟨by omega, by omega⟩
  replace tw := tw hf
  replace ad := ad hf
  replace ht := ht hf
  replace dl := dl hf
  replace rad := rad hf
  replace rht := rht hf
  replace rdl := rdl hf
  replace vc := vc hf
  replace rvc := rvc hf
  replace all := all hf
  replace rall := rall hf
  replace ck := ck hf
  replace rck := rck hf
  have hfa := addO_fit hl1 hl2 key
  have hfh := hitO_fit hl1 hl2 key
  have hfd := delO_fit hl1 hl2 key
  clear hbl
  by_cases q1 : (key.length : Int) > 10000
  · repeat' (first | simp only [go_sem, Nat.reduceLT, Nat.reduceEqDiff, Nat.reduceAdd, Nat.reduceMul, Nat.reduceSub, Nat.reduceLeDiff, Int.reduceToNat, Int.reduceNeg, Int.reduceLT, Int.reduceLE, Int.reduceEq, reduceCtorEq, Int.natCast_zero, Int.natCast_one, Int.cast_ofNat_Int, Bool.not_not, false_eq_decide, true_eq_decide, hread0, hreadk, read_cons0, read_consk, astore_h0, astore_hk, hget0, hgetk, hset0, hsetk, hlen, hcat, Nat.add_assoc, Nat.add_zero, Nat.zero_add, List.length_append, and_true, true_and, AV.flat, *, -hK, -tw, -ad, -ht, -dl, -rad, -rht, -rdl, -vc, -rvc, -all, -rall, -ck, -rck, -hi1, -hi2, -hf, -hfa, -hfh, -hfd, -hl1, -hl2] | with_reducible refine IfB_dec (fun h => ?_) (fun h => ?_) | with_reducible refine Guard_dec (fun h => ?_) (fun h => ?_) | with_reducible refine Guard_ndec (fun h => ?_) (fun h => ?_) | with_reducible refine Guard_not (fun h => ?_) (fun h => ?_) | with_reducible refine IfB_ndec (fun h => ?_) (fun h => ?_) | with_reducible refine IfB_not (fun h => ?_) (fun h => ?_) | with_reducible refine Guard_split (fun h => ?_) (fun h => ?_) | with_reducible refine IfB_split (fun h => ?_) (fun h => ?_))
    exact hK _ _ rfl
  generalize addO o key = pa at *
  generalize hitO o key = ph at *
  generalize delO o key = pd at *
  generalize addE o key = ea at *
  generalize hitE o key = eh at *
  generalize vicS o = vs at *
  generalize vicE o = ve at *
  have hal : (allO o).length ≤ 140737488355328 := by
    unfold allO
    split
    · have h9 := allL_len (tot o) o; have h8 : tot o = o.t.length + o.k.length := rfl; omega
    · simp
  generalize allO o = al at *
  generalize ordE o = oe at *
  repeat' (first | simp only [go_sem, Nat.reduceLT, Nat.reduceEqDiff, Nat.reduceAdd, Nat.reduceMul, Nat.reduceSub, Nat.reduceLeDiff, Int.reduceToNat, Int.reduceNeg, Int.reduceLT, Int.reduceLE, Int.reduceEq, reduceCtorEq, Int.natCast_zero, Int.natCast_one, Int.cast_ofNat_Int, Bool.not_not, false_eq_decide, true_eq_decide, hread0, hreadk, read_cons0, read_consk, astore_h0, astore_hk, hget0, hgetk, hset0, hsetk, hlen, hcat, Nat.add_assoc, Nat.add_zero, Nat.zero_add, List.length_append, and_true, true_and, AV.flat, *, -hK, -tw, -ad, -ht, -dl, -rad, -rht, -rdl, -vc, -rvc, -all, -rall, -ck, -rck, -hi1, -hi2, -hf, -hfa, -hfh, -hfd, -hl1, -hl2, -hal] | refine WC.call (tw _) ?_ | with_reducible refine IfB_dec (fun h => ?_) (fun h => ?_) | with_reducible refine Guard_dec (fun h => ?_) (fun h => ?_) | with_reducible refine Guard_ndec (fun h => ?_) (fun h => ?_) | with_reducible refine Guard_not (fun h => ?_) (fun h => ?_) | with_reducible refine IfB_ndec (fun h => ?_) (fun h => ?_) | with_reducible refine IfB_not (fun h => ?_) (fun h => ?_) | with_reducible refine Guard_split (fun h => ?_) (fun h => ?_) | with_reducible refine IfB_split (fun h => ?_) (fun h => ?_))
  have g2 : (H ++ [(⟨[Enc.str.lst o.t, Enc.str.lst o.k], 0, .full⟩ : Blk), (⟨[Enc.str.lst o.t, Enc.str.lst o.k], 0, .full⟩ : Blk)])[H.length]? = some ⟨[Enc.str.lst o.t, Enc.str.lst o.k], 0, .full⟩ := by rw [hget0]; rfl
  have g5 : (H ++ [(⟨[Enc.str.lst o.t, Enc.str.lst o.k], 0, .full⟩ : Blk), (⟨[Enc.str.lst o.t, Enc.str.lst o.k], 0, .full⟩ : Blk)])[H.length + 1]? = some ⟨[Enc.str.lst o.t, Enc.str.lst o.k], 0, .full⟩ := by rw [hgetk]; rfl
  have hGl : H.length + 2 = (H ++ [(⟨[Enc.str.lst o.t, Enc.str.lst o.k], 0, .full⟩ : Blk), (⟨[Enc.str.lst o.t, Enc.str.lst o.k], 0, .full⟩ : Blk)]).length := by simp
  generalize (H ++ [(⟨[Enc.str.lst o.t, Enc.str.lst o.k], 0, .full⟩ : Blk), (⟨[Enc.str.lst o.t, Enc.str.lst o.k], 0, .full⟩ : Blk)] : Heap) = G0 at *
  refine (ad _).mono ?_
  rintro _ J1 ⟨⟨_, rfl, va, ka, rfl, oa1, ob1, da1⟩, k1⟩
  have hva1 := oa1.one
  have hvb1 := ob1.one
  replace g2 := k1.get g2 (by simp [AV.blk])
  replace g5 := k1.get g5 (by simp [AV.blk])
  have g2a := get_app g2 [(⟨[va, ka], 0, .full⟩ : Blk)]
  have g5b := get_app g5 [(⟨[va, ka], 0, .full⟩ : Blk), (⟨[Enc.str.lst pa.t, Enc.str.lst pa.k], 0, .full⟩ : Blk)]
  clear ad
  repeat' (first | simp only [go_sem, Nat.reduceLT, Nat.reduceEqDiff, Nat.reduceAdd, Nat.reduceMul, Nat.reduceSub, Nat.reduceLeDiff, Int.reduceToNat, Int.reduceNeg, Int.reduceLT, Int.reduceLE, Int.reduceEq, reduceCtorEq, Int.natCast_zero, Int.natCast_one, Int.cast_ofNat_Int, Bool.not_not, false_eq_decide, true_eq_decide, hread0, hreadk, read_cons0, read_consk, astore_h0, astore_hk, hget0, hgetk, hset0, hsetk, hlen, hcat, Nat.add_assoc, Nat.add_zero, Nat.zero_add, List.length_append, and_true, true_and, AV.flat, g2a, get_app g2a, read_get g2a, read_app g2a, g5b, get_app g5b, read_get g5b, read_app g5b, hva1, one_solid hva1, one_cells hva1, hvb1, one_solid hvb1, one_cells hvb1, *, -hK, -oa1, -ob1, -da1, -k1, -g2, -g5, -ht, -dl, -rht, -rdl, -rad, -vc, -rvc, -all, -rall, -ck, -rck, -hi1, -hi2, -hf, -hfa, -hfh, -hfd, -hl1, -hl2, -tw, -hal, -hGl] | refine WC.call (rad _) ?_ | with_reducible refine IfB_dec (fun h => ?_) (fun h => ?_) | with_reducible refine Guard_dec (fun h => ?_) (fun h => ?_) | with_reducible refine Guard_ndec (fun h => ?_) (fun h => ?_) | with_reducible refine Guard_not (fun h => ?_) (fun h => ?_) | with_reducible refine IfB_ndec (fun h => ?_) (fun h => ?_) | with_reducible refine IfB_not (fun h => ?_) (fun h => ?_) | with_reducible refine Guard_split (fun h => ?_) (fun h => ?_) | with_reducible refine IfB_split (fun h => ?_) (fun h => ?_))
  clear rad
  replace g2 := get_app g2 [(⟨[va, ka], 0, .full⟩ : Blk), (⟨[Enc.str.lst pa.t, Enc.str.lst pa.k], 0, .full⟩ : Blk)]
  have g61 : (J1 ++ [(⟨[va, ka], 0, .full⟩ : Blk), (⟨[Enc.str.lst pa.t, Enc.str.lst pa.k], 0, .full⟩ : Blk)])[(J1).length]? = some ⟨[va, ka], 0, .full⟩ := by rw [hget0]; rfl
  have g81 : (J1 ++ [(⟨[va, ka], 0, .full⟩ : Blk), (⟨[Enc.str.lst pa.t, Enc.str.lst pa.k], 0, .full⟩ : Blk)])[(J1).length + 1]? = some ⟨[Enc.str.lst pa.t, Enc.str.lst pa.k], 0, .full⟩ := by rw [hgetk]; rfl
  have la1 : ∀ b, (va).blk = some b → b < (J1).length := fun b hb => oa1.lt hb
  have lb1 : ∀ b, (ka).blk = some b → b < (J1).length := fun b hb => ob1.lt hb
  have le1 : (G0).length ≤ (J1).length := k1.len
  have hg1 : (J1).length + 2 = (J1 ++ [(⟨[va, ka], 0, .full⟩ : Blk), (⟨[Enc.str.lst pa.t, Enc.str.lst pa.k], 0, .full⟩ : Blk)]).length := by simp
  have kk1 : Keep none (G0) (J1 ++ [(⟨[va, ka], 0, .full⟩ : Blk), (⟨[Enc.str.lst pa.t, Enc.str.lst pa.k], 0, .full⟩ : Blk)]) := k1.trans (Keep.app _ _ _)
  replace oa1 := oa1.keep0 (Keep.app none J1 [(⟨[va, ka], 0, .full⟩ : Blk), (⟨[Enc.str.lst pa.t, Enc.str.lst pa.k], 0, .full⟩ : Blk)])
  replace ob1 := ob1.keep0 (Keep.app none J1 [(⟨[va, ka], 0, .full⟩ : Blk), (⟨[Enc.str.lst pa.t, Enc.str.lst pa.k], 0, .full⟩ : Blk)])
  replace g5 := g5b
  clear g2a g5b k1
  generalize (J1 ++ [(⟨[va, ka], 0, .full⟩ : Blk), (⟨[Enc.str.lst pa.t, Enc.str.lst pa.k], 0, .full⟩ : Blk)] : Heap) = G1 at *
  generalize (J1).length = b6 at *
  rw [← hGl] at oa1 ob1
  refine (ht _).mono ?_
  rintro _ J2 ⟨⟨_, rfl, vh, kh, rfl, oa2, ob2, da2⟩, k2⟩
  have hva2 := oa2.one
  have hvb2 := ob2.one
  replace g2 := k2.get g2 (by simp [AV.blk])
  replace g5 := k2.get g5 (by simp [AV.blk])
  have g2a := get_app g2 [(⟨[vh, kh], 0, .full⟩ : Blk)]
  have g5b := get_app g5 [(⟨[vh, kh], 0, .full⟩ : Blk), (⟨[Enc.str.lst ph.t, Enc.str.lst ph.k], 0, .full⟩ : Blk)]
  clear ht
  repeat' (first | simp only [go_sem, Nat.reduceLT, Nat.reduceEqDiff, Nat.reduceAdd, Nat.reduceMul, Nat.reduceSub, Nat.reduceLeDiff, Int.reduceToNat, Int.reduceNeg, Int.reduceLT, Int.reduceLE, Int.reduceEq, reduceCtorEq, Int.natCast_zero, Int.natCast_one, Int.cast_ofNat_Int, Bool.not_not, false_eq_decide, true_eq_decide, hread0, hreadk, read_cons0, read_consk, astore_h0, astore_hk, hget0, hgetk, hset0, hsetk, hlen, hcat, Nat.add_assoc, Nat.add_zero, Nat.zero_add, List.length_append, and_true, true_and, AV.flat, g2a, get_app g2a, read_get g2a, read_app g2a, g5b, get_app g5b, read_get g5b, read_app g5b, hva2, one_solid hva2, one_cells hva2, hvb2, one_solid hvb2, one_cells hvb2, *, -hK, -oa2, -ob2, -da2, -k2, -g2, -g5, -dl, -rht, -rdl, -vc, -rvc, -all, -rall, -ck, -rck, -hi1, -hi2, -hf, -hfa, -hfh, -hfd, -hl1, -hl2, -tw, -hal, -hGl, -oa1, -ob1, -da1, -la1, -lb1, -g61, -g81, -le1, -hg1] | refine WC.call (rht _) ?_ | with_reducible refine IfB_dec (fun h => ?_) (fun h => ?_) | with_reducible refine Guard_dec (fun h => ?_) (fun h => ?_) | with_reducible refine Guard_ndec (fun h => ?_) (fun h => ?_) | with_reducible refine Guard_not (fun h => ?_) (fun h => ?_) | with_reducible refine IfB_ndec (fun h => ?_) (fun h => ?_) | with_reducible refine IfB_not (fun h => ?_) (fun h => ?_) | with_reducible refine Guard_split (fun h => ?_) (fun h => ?_) | with_reducible refine IfB_split (fun h => ?_) (fun h => ?_))
  clear rht
  replace g2 := get_app g2 [(⟨[vh, kh], 0, .full⟩ : Blk), (⟨[Enc.str.lst ph.t, Enc.str.lst ph.k], 0, .full⟩ : Blk)]
  have g62 : (J2 ++ [(⟨[vh, kh], 0, .full⟩ : Blk), (⟨[Enc.str.lst ph.t, Enc.str.lst ph.k], 0, .full⟩ : Blk)])[(J2).length]? = some ⟨[vh, kh], 0, .full⟩ := by rw [hget0]; rfl
  have g82 : (J2 ++ [(⟨[vh, kh], 0, .full⟩ : Blk), (⟨[Enc.str.lst ph.t, Enc.str.lst ph.k], 0, .full⟩ : Blk)])[(J2).length + 1]? = some ⟨[Enc.str.lst ph.t, Enc.str.lst ph.k], 0, .full⟩ := by rw [hgetk]; rfl
  have la2 : ∀ b, (vh).blk = some b → b < (J2).length := fun b hb => oa2.lt hb
  have lb2 : ∀ b, (kh).blk = some b → b < (J2).length := fun b hb => ob2.lt hb
  have le2 : (G1).length ≤ (J2).length := k2.len
  have hg2 : (J2).length + 2 = (J2 ++ [(⟨[vh, kh], 0, .full⟩ : Blk), (⟨[Enc.str.lst ph.t, Enc.str.lst ph.k], 0, .full⟩ : Blk)]).length := by simp
  have kk2 : Keep none (G1) (J2 ++ [(⟨[vh, kh], 0, .full⟩ : Blk), (⟨[Enc.str.lst ph.t, Enc.str.lst ph.k], 0, .full⟩ : Blk)]) := k2.trans (Keep.app _ _ _)
  replace oa2 := oa2.keep0 (Keep.app none J2 [(⟨[vh, kh], 0, .full⟩ : Blk), (⟨[Enc.str.lst ph.t, Enc.str.lst ph.k], 0, .full⟩ : Blk)])
  replace ob2 := ob2.keep0 (Keep.app none J2 [(⟨[vh, kh], 0, .full⟩ : Blk), (⟨[Enc.str.lst ph.t, Enc.str.lst ph.k], 0, .full⟩ : Blk)])
  replace g5 := g5b
  clear g2a g5b k2
  generalize (J2 ++ [(⟨[vh, kh], 0, .full⟩ : Blk), (⟨[Enc.str.lst ph.t, Enc.str.lst ph.k], 0, .full⟩ : Blk)] : Heap) = G2 at *
  generalize (J2).length = b10 at *
  refine (dl _).mono ?_
  rintro _ J3 ⟨⟨_, rfl, vx, kx, rfl, oa3, ob3, da3⟩, k3⟩
  have hva3 := oa3.one
  have hvb3 := ob3.one
  replace g2 := k3.get g2 (by simp [AV.blk])
  replace g5 := k3.get g5 (by simp [AV.blk])
  have g2a := get_app g2 [(⟨[vx, kx], 0, .full⟩ : Blk)]
  have g5b := get_app g5 [(⟨[vx, kx], 0, .full⟩ : Blk), (⟨[Enc.str.lst pd.t, Enc.str.lst pd.k], 0, .full⟩ : Blk)]
  clear dl
  repeat' (first | simp only [go_sem, Nat.reduceLT, Nat.reduceEqDiff, Nat.reduceAdd, Nat.reduceMul, Nat.reduceSub, Nat.reduceLeDiff, Int.reduceToNat, Int.reduceNeg, Int.reduceLT, Int.reduceLE, Int.reduceEq, reduceCtorEq, Int.natCast_zero, Int.natCast_one, Int.cast_ofNat_Int, Bool.not_not, false_eq_decide, true_eq_decide, hread0, hreadk, read_cons0, read_consk, astore_h0, astore_hk, hget0, hgetk, hset0, hsetk, hlen, hcat, Nat.add_assoc, Nat.add_zero, Nat.zero_add, List.length_append, and_true, true_and, AV.flat, g2a, get_app g2a, read_get g2a, read_app g2a, g5b, get_app g5b, read_get g5b, read_app g5b, hva3, one_solid hva3, one_cells hva3, hvb3, one_solid hvb3, one_cells hvb3, *, -hK, -oa3, -ob3, -da3, -k3, -g2, -g5, -rdl, -vc, -rvc, -all, -rall, -ck, -rck, -hi1, -hi2, -hf, -hfa, -hfh, -hfd, -hl1, -hl2, -tw, -hal, -hGl, -oa1, -ob1, -da1, -la1, -lb1, -g61, -g81, -le1, -hg1, -oa2, -ob2, -da2, -la2, -lb2, -g62, -g82, -le2, -hg2] | refine WC.call (rdl _) ?_ | refine WC.call (vc _) ?_ | refine WC.call (rvc _) ?_ | refine WC.call (all _) ?_ | refine WC.call (rall _) ?_ | with_reducible refine IfB_dec (fun h => ?_) (fun h => ?_) | with_reducible refine Guard_dec (fun h => ?_) (fun h => ?_) | with_reducible refine Guard_ndec (fun h => ?_) (fun h => ?_) | with_reducible refine Guard_not (fun h => ?_) (fun h => ?_) | with_reducible refine IfB_ndec (fun h => ?_) (fun h => ?_) | with_reducible refine IfB_not (fun h => ?_) (fun h => ?_) | with_reducible refine Guard_split (fun h => ?_) (fun h => ?_) | with_reducible refine IfB_split (fun h => ?_) (fun h => ?_))
  clear rdl
  replace g2 := get_app g2 [(⟨[vx, kx], 0, .full⟩ : Blk), (⟨[Enc.str.lst pd.t, Enc.str.lst pd.k], 0, .full⟩ : Blk)]
  have g63 : (J3 ++ [(⟨[vx, kx], 0, .full⟩ : Blk), (⟨[Enc.str.lst pd.t, Enc.str.lst pd.k], 0, .full⟩ : Blk)])[(J3).length]? = some ⟨[vx, kx], 0, .full⟩ := by rw [hget0]; rfl
  have g83 : (J3 ++ [(⟨[vx, kx], 0, .full⟩ : Blk), (⟨[Enc.str.lst pd.t, Enc.str.lst pd.k], 0, .full⟩ : Blk)])[(J3).length + 1]? = some ⟨[Enc.str.lst pd.t, Enc.str.lst pd.k], 0, .full⟩ := by rw [hgetk]; rfl
  have la3 : ∀ b, (vx).blk = some b → b < (J3).length := fun b hb => oa3.lt hb
  have lb3 : ∀ b, (kx).blk = some b → b < (J3).length := fun b hb => ob3.lt hb
  have le3 : (G2).length ≤ (J3).length := k3.len
  have hg3 : (J3).length + 2 = (J3 ++ [(⟨[vx, kx], 0, .full⟩ : Blk), (⟨[Enc.str.lst pd.t, Enc.str.lst pd.k], 0, .full⟩ : Blk)]).length := by simp
  have kk3 : Keep none (G2) (J3 ++ [(⟨[vx, kx], 0, .full⟩ : Blk), (⟨[Enc.str.lst pd.t, Enc.str.lst pd.k], 0, .full⟩ : Blk)]) := k3.trans (Keep.app _ _ _)
  replace oa3 := oa3.keep0 (Keep.app none J3 [(⟨[vx, kx], 0, .full⟩ : Blk), (⟨[Enc.str.lst pd.t, Enc.str.lst pd.k], 0, .full⟩ : Blk)])
  replace ob3 := ob3.keep0 (Keep.app none J3 [(⟨[vx, kx], 0, .full⟩ : Blk), (⟨[Enc.str.lst pd.t, Enc.str.lst pd.k], 0, .full⟩ : Blk)])
  replace g5 := g5b
  clear g2a g5b k3
  generalize (J3 ++ [(⟨[vx, kx], 0, .full⟩ : Blk), (⟨[Enc.str.lst pd.t, Enc.str.lst pd.k], 0, .full⟩ : Blk)] : Heap) = G3 at *
  generalize (J3).length = b14 at *
  have kk13 : Keep none G1 G3 := kk2.trans kk3
  have m61 := kk13.get g61 (by simp)
  have m81 := kk13.get g81 (by simp)
  have m62 := kk3.get g62 (by simp)
  have m82 := kk3.get g82 (by simp)
  replace oa1 := oa1.keep0 kk13
  replace ob1 := ob1.keep0 kk13
  replace oa2 := oa2.keep0 kk3
  replace ob2 := ob2.keep0 kk3
  clear kk1 kk2 kk3 kk13 g61 g81 g62 g82 tw
  have hall : al.length ≤ 140737488355328 := hal
  have sa := same_lent oa1 ob1 hfa
  have sh := same_lent oa2 ob2 hfh
  have sd := same_lent oa3 ob3 hfd
  have st := fun J => sameTexts_spec al al hall J
  rw [decide_eq_true rfl] at st
  unfold Ord.av at sa sh sd
  repeat' (first | simp only [go_sem, Nat.reduceLT, Nat.reduceEqDiff, Nat.reduceAdd, Nat.reduceMul, Nat.reduceSub, Nat.reduceLeDiff, Int.reduceToNat, Int.reduceNeg, Int.reduceLT, Int.reduceLE, Int.reduceEq, reduceCtorEq, Int.natCast_zero, Int.natCast_one, Int.cast_ofNat_Int, Bool.not_not, false_eq_decide, true_eq_decide, hread0, hreadk, read_cons0, read_consk, astore_h0, astore_hk, hget0, hgetk, hset0, hsetk, hlen, hcat, Nat.add_assoc, Nat.add_zero, Nat.zero_add, List.length_append, and_true, true_and, AV.flat, g2, get_app g2, read_get g2, read_app g2, g5, get_app g5, read_get g5, read_app g5, *, -hK, -vc, -rvc, -all, -rall, -ck, -rck, -hi1, -hi2, -hf, -hfa, -hfh, -hfd, -hl1, -hl2, -hGl, -oa1, -ob1, -da1, -la1, -lb1, -le1, -hg1, -oa2, -ob2, -da2, -la2, -lb2, -le2, -hg2, -oa3, -ob3, -da3, -la3, -lb3, -le3, -hg3, -m61, -m81, -m62, -m82, -g63, -g83, -hal, -hall, -sa, -sh, -sd, -st] | refine WC.call (rvc _) ?_ | refine WC.call (all _) ?_ | refine WC.call (rall _) ?_ | with_reducible refine IfB_dec (fun h => ?_) (fun h => ?_) | with_reducible refine Guard_dec (fun h => ?_) (fun h => ?_) | with_reducible refine Guard_ndec (fun h => ?_) (fun h => ?_) | with_reducible refine Guard_not (fun h => ?_) (fun h => ?_) | with_reducible refine IfB_ndec (fun h => ?_) (fun h => ?_) | with_reducible refine IfB_not (fun h => ?_) (fun h => ?_) | with_reducible refine Guard_split (fun h => ?_) (fun h => ?_) | with_reducible refine IfB_split (fun h => ?_) (fun h => ?_))
  clear vc rvc all rall
  refine WX_rows hT hmix [(0, none), (1, none), (2, some [true, true]), (3, none), (4, none), (5, none), (6, none), (7, none), (8, none), (9, none), (10, none), (11, none), (12, some [true, true, true, true, true, true, true, true, true, true, true, true]), (13, none), (14, none), (15, none), (16, none), (17, none), (18, none), (19, none), (20, none), (21, none), (22, none), (23, some [true, true, true, true, true, true, true, true, true, true, true, true, true, true, true, true, true, true, true, true, true, true, true]), (24, none), (25, none), (26, none), (27, none), (28, none), (29, none), (30, none), (31, none), (32, none), (33, none), (34, none), (35, none), (36, none), (37, none), (38, none), (39, none), (40, none), (41, none), (42, none), (43, none), (44, some [true, true, true, true, true, true, true, true, true, true, true, true, true, true, true, true, true, true, true, true, true, true, true, true, true, true, true, true, true, true, true, true, true, true, true, true, true, true, true, true, true, true, true, true]), (45, none), (46, none), (47, none), (48, none), (49, none), (50, none), (51, none), (52, none), (53, none), (55, none), (54, some [false, true, true, true, true, true, true, true, true, true, true, true, true, true, true, true, true, true, true, true, true, true, true, true, true, true, true, true, true, true, true, true, true, true, true, true, true, true, true, true, true, true, true, true, true, true, true, true, true, true, true, true, true, true, true]), (56, some [true, true, true, true, true, true, true, true, true, true, true, true, true, true, true, true, true, true, true, true, true, true, true, true, true, true, true, true, true, true, true, true, true, true, true, true, true, true, true, true, true, true, true, true, true, true, true, true, true, true, true, true, true, true, true, true]), (57, none), (58, none)] (by kernel_rfl) ?_
  simp only [List.append_eq, List.cons_append, List.nil_append]
  repeat' (first | simp only [go_sem, Nat.reduceLT, Nat.reduceEqDiff, Nat.reduceAdd, Nat.reduceMul, Nat.reduceSub, Nat.reduceLeDiff, Int.reduceToNat, Int.reduceNeg, Int.reduceLT, Int.reduceLE, Int.reduceEq, reduceCtorEq, Int.natCast_zero, Int.natCast_one, Int.cast_ofNat_Int, Bool.not_not, false_eq_decide, true_eq_decide, hread0, hreadk, read_cons0, read_consk, astore_h0, astore_hk, hget0, hgetk, hset0, hsetk, hlen, hcat, Nat.add_assoc, Nat.add_zero, Nat.zero_add, List.length_append, and_true, true_and, AV.flat, g2, get_app g2, read_get g2, read_app g2, g5, get_app g5, read_get g5, read_app g5, m61, get_app m61, read_get m61, read_app m61, m81, get_app m81, read_get m81, read_app m81, m62, get_app m62, read_get m62, read_app m62, m82, get_app m82, read_get m82, read_app m82, g63, get_app g63, read_get g63, read_app g63, g83, get_app g83, read_get g83, read_app g83, hva1, one_solid hva1, one_cells hva1, hvb1, one_solid hvb1, one_cells hvb1, hva2, one_solid hva2, one_cells hva2, hvb2, one_solid hvb2, one_cells hvb2, hva3, one_solid hva3, one_cells hva3, hvb3, one_solid hvb3, one_cells hvb3, *, -hK, -ck, -rck, -hi1, -hi2, -hf, -hfa, -hfh, -hfd, -hl1, -hl2, -hGl, -oa1, -ob1, -da1, -la1, -lb1, -le1, -hg1, -oa2, -ob2, -da2, -la2, -lb2, -le2, -hg2, -oa3, -ob3, -da3, -la3, -lb3, -le3, -hg3, -hal, -hall, -sa, -sh, -sd, -st] | refine WC.call (sa) ?_ | refine WC.call (sh) ?_ | refine WC.call (sd) ?_ | refine WC.call (st _) ?_ | refine WC.call (ck _) ?_ | refine WC.call (rck _) ?_ | with_reducible refine IfB_dec (fun h => ?_) (fun h => ?_) | with_reducible refine Guard_dec (fun h => ?_) (fun h => ?_) | with_reducible refine Guard_ndec (fun h => ?_) (fun h => ?_) | with_reducible refine Guard_not (fun h => ?_) (fun h => ?_) | with_reducible refine IfB_ndec (fun h => ?_) (fun h => ?_) | with_reducible refine IfB_not (fun h => ?_) (fun h => ?_) | with_reducible refine Guard_split (fun h => ?_) (fun h => ?_) | with_reducible refine IfB_split (fun h => ?_) (fun h => ?_))
  have tn : Tn H.length o b6 b10 b14 va ka vh kh vx kx pa.t.length ph.k.length pd.t.length G3 := ⟨g2, g5, m61, m62, g63, ⟨_, rfl, Own.mono oa1 (by omega)⟩, ⟨_, rfl, Own.mono ob2 (by omega)⟩, ⟨_, rfl, Own.mono oa3 (by omega)⟩, la1, lb2, la3, by omega, by omega, by omega⟩
  have sm := fun J => rSame_spec o o hf J
  rw [decide_eq_true rfl, decide_eq_true rfl, Bool.true_and] at sm
  have ck1 : pa.t.length ≤ 1000 ∧ ph.k.length ≤ 1000 ∧ pd.t.length ≤ 1000 := ⟨hfa.1, hfh.2, hfd.1⟩
  unfold Ord.av at sm
  have hv1 := hva1
  have hv2 := hvb2
  have hv3 := hva3
  clear ck rck sa sh sd st m61 m81 m62 m82 g63 g83 oa1 ob1 oa2 ob2 oa3 ob3 g2 g5 hva1 hvb1 hva2 hvb2 hva3 hvb3 la1 lb1 la2 lb2 la3 lb3 da1 da2 da3 hg1 hg2 hg3 le1 le2 le3 hfa hfh hfd hi1 hi2 hl1 hl2 hal hall hGl
  generalize pa.t.length = n1 at *
  generalize ph.k.length = n2 at *
  generalize pd.t.length = n3 at *
  generalize H.length = q at *
  generalize G3 = G at *
  refine WX_loopS [2, 5, 6, 10, 14] (fun kn fr' J => ∃ i : Nat, kn = n1 - i ∧ i ≤ n1 ∧ fr'.get 26 = .int .i64 i ∧ Tn q o b6 b10 b14 va ka vh kh vx kx n1 n2 n3 J) n1 ⟨0, rfl, by omega, by simp only [go_sem, Nat.reduceLT, Nat.reduceEqDiff, Nat.reduceAdd, Nat.reduceMul, Nat.reduceSub, Nat.reduceLeDiff, Int.reduceToNat, Int.reduceNeg, Int.reduceLT, Int.reduceLE, Int.reduceEq, reduceCtorEq]; rfl, tn⟩ ?_
  try have o2 := s2
  try have o5 := s5
  try have o6 := s6
  try have o10 := s10
  try have o14 := s14
  clear tn
  try clear hs s2 s5 s6 s10 s14
  try clear hR
  try clear hA hg
  rintro kn fr' J A R hA hs hg hR ⟨i, rfl, hi, hfi, tn⟩
  have s2 := hg 2 (by decide)
  have s5 := hg 5 (by decide)
  have s6 := hg 6 (by decide)
  have s10 := hg 10 (by decide)
  have s14 := hg 14 (by decide)
  simp only [Fr.get_put, Fr.get_init, List.getD_cons_zero, List.getD_cons_succ, Nat.reduceEqDiff, if_true, if_false] at s2 s5 s6 s10 s14
  try rw [o2] at s2
  try rw [o5] at s5
  try rw [o6] at s6
  try rw [o10] at s10
  try rw [o14] at s14
  try clear o2 o5 o6 o10 o14
  refine wx_sound hT _ ?_
  obtain ⟨lw, hlw, ow⟩ := tn.oa
  have hvw := ow.one
  have gq := tn.g6
  have e9 := ow.alen (T := T) (by decide) tk22
  rw [hlw] at e9
  by_cases hlt : i < n1
  · have i1 : (i : Int) < n1 := by omega
    have e7 : IntKind.i64.wrap ((i : Int) + 1) = ((i + 1 : Nat) : Int) := by rw [IntKind.wrap_i64]; omega
    have back : ∀ fr2 J2, A fr2 → fr2.get 26 = .int .i64 ((i + 1 : Nat) : Int) → Tn q o b6 b10 b14 va ka vh kh vx kx n1 n2 n3 J2 → R fr2 J2 := fun fr2 J2 ha q1 q2 => hR fr2 J2 ha (n1 - (i + 1)) (by omega) ⟨i + 1, rfl, by omega, q1, q2⟩
    clear hR
    obtain ⟨b', o', H2, w1, w2, w3, w4, w5⟩ := ow.set (by decide) se22 (i := i) (by omega) (k := .i64) rfl (te := 9) (by simp only [asize, td9, Option.map_some]; rfl) (x := [116, 117, 114, 110, 101, 100]) (a := .str [116, 117, 114, 110, 101, 100]) rfl rfl
    rw [← w5] at w4
    have tn2 := tn.wa (by rw [List.length_set]; exact hlw) w3 w4
    repeat' (first | simp only [go_sem, Nat.reduceLT, Nat.reduceEqDiff, Nat.reduceAdd, Nat.reduceMul, Nat.reduceSub, Nat.reduceLeDiff, Int.reduceToNat, Int.reduceNeg, Int.reduceLT, Int.reduceLE, Int.reduceEq, reduceCtorEq, Int.natCast_zero, Int.natCast_one, Int.cast_ofNat_Int, Bool.not_not, false_eq_decide, true_eq_decide, hread0, hreadk, read_cons0, read_consk, astore_h0, astore_hk, hget0, hgetk, hset0, hsetk, hlen, hcat, Nat.add_assoc, Nat.add_zero, Nat.zero_add, List.length_append, and_true, true_and, AV.flat, gq, get_app gq, read_get gq, read_app gq, hvw, one_solid hvw, one_cells hvw, hv1, one_solid hv1, one_cells hv1, hv2, one_solid hv2, one_cells hv2, hv3, one_solid hv3, one_cells hv3, *, -hK, -tn, -hlt, -hlw, -ow, -w3, -w4, -w5, -tn2, -back, -ck1, -sm] | with_reducible refine IfB_dec (fun h => ?_) (fun h => ?_) | with_reducible refine Guard_dec (fun h => ?_) (fun h => ?_) | with_reducible refine Guard_ndec (fun h => ?_) (fun h => ?_) | with_reducible refine Guard_not (fun h => ?_) (fun h => ?_) | with_reducible refine IfB_ndec (fun h => ?_) (fun h => ?_) | with_reducible refine IfB_not (fun h => ?_) (fun h => ?_) | with_reducible refine Guard_split (fun h => ?_) (fun h => ?_) | with_reducible refine IfB_split (fun h => ?_) (fun h => ?_))
    exact back _ _ (by (repeat (first | exact hs | refine hA _ _ _ (by decide) ?_))) (by simp only [go_sem, Nat.reduceLT, Nat.reduceEqDiff, Nat.reduceAdd, Nat.reduceMul, Nat.reduceSub, Nat.reduceLeDiff, Int.reduceToNat, Int.reduceNeg, Int.reduceLT, Int.reduceLE, Int.reduceEq, reduceCtorEq]) tn2
  have i1 : ¬ (i : Int) < n1 := by omega
  repeat' (first | simp only [go_sem, Nat.reduceLT, Nat.reduceEqDiff, Nat.reduceAdd, Nat.reduceMul, Nat.reduceSub, Nat.reduceLeDiff, Int.reduceToNat, Int.reduceNeg, Int.reduceLT, Int.reduceLE, Int.reduceEq, reduceCtorEq, Int.natCast_zero, Int.natCast_one, Int.cast_ofNat_Int, Bool.not_not, false_eq_decide, true_eq_decide, hread0, hreadk, read_cons0, read_consk, astore_h0, astore_hk, hget0, hgetk, hset0, hsetk, hlen, hcat, Nat.add_assoc, Nat.add_zero, Nat.zero_add, List.length_append, and_true, true_and, AV.flat, gq, get_app gq, read_get gq, read_app gq, hvw, one_solid hvw, one_cells hvw, hv1, one_solid hv1, one_cells hv1, hv2, one_solid hv2, one_cells hv2, hv3, one_solid hv3, one_cells hv3, *, -hK, -tn, -hlt, -hlw, -ow, -ck1, -sm] | with_reducible refine IfB_dec (fun h => ?_) (fun h => ?_) | with_reducible refine Guard_dec (fun h => ?_) (fun h => ?_) | with_reducible refine Guard_ndec (fun h => ?_) (fun h => ?_) | with_reducible refine Guard_not (fun h => ?_) (fun h => ?_) | with_reducible refine IfB_ndec (fun h => ?_) (fun h => ?_) | with_reducible refine IfB_not (fun h => ?_) (fun h => ?_) | with_reducible refine Guard_split (fun h => ?_) (fun h => ?_) | with_reducible refine IfB_split (fun h => ?_) (fun h => ?_))
  clear e9 gq hvw ow hlw hlt i1 hfi hi
  clear lw
  refine WX_loopS [2, 5, 6, 10, 14] (fun kn fr' J => ∃ i : Nat, kn = n2 - i ∧ i ≤ n2 ∧ fr'.get 27 = .int .i64 i ∧ Tn q o b6 b10 b14 va ka vh kh vx kx n1 n2 n3 J) n2 ⟨0, rfl, by omega, by simp only [go_sem, Nat.reduceLT, Nat.reduceEqDiff, Nat.reduceAdd, Nat.reduceMul, Nat.reduceSub, Nat.reduceLeDiff, Int.reduceToNat, Int.reduceNeg, Int.reduceLT, Int.reduceLE, Int.reduceEq, reduceCtorEq]; rfl, tn⟩ ?_
  try have o2 := s2
  try have o5 := s5
  try have o6 := s6
  try have o10 := s10
  try have o14 := s14
  clear tn
  try clear hs s2 s5 s6 s10 s14
  try clear hR
  try clear hA hg
  rintro kn fr' J A R hA hs hg hR ⟨i, rfl, hi, hfi, tn⟩
  have s2 := hg 2 (by decide)
  have s5 := hg 5 (by decide)
  have s6 := hg 6 (by decide)
  have s10 := hg 10 (by decide)
  have s14 := hg 14 (by decide)
  simp only [Fr.get_put, Fr.get_init, List.getD_cons_zero, List.getD_cons_succ, Nat.reduceEqDiff, if_true, if_false] at s2 s5 s6 s10 s14
  try rw [o2] at s2
  try rw [o5] at s5
  try rw [o6] at s6
  try rw [o10] at s10
  try rw [o14] at s14
  try clear o2 o5 o6 o10 o14
  refine wx_sound hT _ ?_
  obtain ⟨lw, hlw, ow⟩ := tn.oh
  have hvw := ow.one
  have gq := tn.g10
  have e9 := ow.alen (T := T) (by decide) tk22
  rw [hlw] at e9
  by_cases hlt : i < n2
  · have i1 : (i : Int) < n2 := by omega
    have e7 : IntKind.i64.wrap ((i : Int) + 1) = ((i + 1 : Nat) : Int) := by rw [IntKind.wrap_i64]; omega
    have back : ∀ fr2 J2, A fr2 → fr2.get 27 = .int .i64 ((i + 1 : Nat) : Int) → Tn q o b6 b10 b14 va ka vh kh vx kx n1 n2 n3 J2 → R fr2 J2 := fun fr2 J2 ha q1 q2 => hR fr2 J2 ha (n2 - (i + 1)) (by omega) ⟨i + 1, rfl, by omega, q1, q2⟩
    clear hR
    obtain ⟨b', o', H2, w1, w2, w3, w4, w5⟩ := ow.set (by decide) se22 (i := i) (by omega) (k := .i64) rfl (te := 9) (by simp only [asize, td9, Option.map_some]; rfl) (x := [116, 117, 114, 110, 101, 100]) (a := .str [116, 117, 114, 110, 101, 100]) rfl rfl
    rw [← w5] at w4
    have tn2 := tn.wh (by rw [List.length_set]; exact hlw) w3 w4
    repeat' (first | simp only [go_sem, Nat.reduceLT, Nat.reduceEqDiff, Nat.reduceAdd, Nat.reduceMul, Nat.reduceSub, Nat.reduceLeDiff, Int.reduceToNat, Int.reduceNeg, Int.reduceLT, Int.reduceLE, Int.reduceEq, reduceCtorEq, Int.natCast_zero, Int.natCast_one, Int.cast_ofNat_Int, Bool.not_not, false_eq_decide, true_eq_decide, hread0, hreadk, read_cons0, read_consk, astore_h0, astore_hk, hget0, hgetk, hset0, hsetk, hlen, hcat, Nat.add_assoc, Nat.add_zero, Nat.zero_add, List.length_append, and_true, true_and, AV.flat, gq, get_app gq, read_get gq, read_app gq, hvw, one_solid hvw, one_cells hvw, hv1, one_solid hv1, one_cells hv1, hv2, one_solid hv2, one_cells hv2, hv3, one_solid hv3, one_cells hv3, *, -hK, -tn, -hlt, -hlw, -ow, -w3, -w4, -w5, -tn2, -back, -ck1, -sm] | with_reducible refine IfB_dec (fun h => ?_) (fun h => ?_) | with_reducible refine Guard_dec (fun h => ?_) (fun h => ?_) | with_reducible refine Guard_ndec (fun h => ?_) (fun h => ?_) | with_reducible refine Guard_not (fun h => ?_) (fun h => ?_) | with_reducible refine IfB_ndec (fun h => ?_) (fun h => ?_) | with_reducible refine IfB_not (fun h => ?_) (fun h => ?_) | with_reducible refine Guard_split (fun h => ?_) (fun h => ?_) | with_reducible refine IfB_split (fun h => ?_) (fun h => ?_))
    exact back _ _ (by (repeat (first | exact hs | refine hA _ _ _ (by decide) ?_))) (by simp only [go_sem, Nat.reduceLT, Nat.reduceEqDiff, Nat.reduceAdd, Nat.reduceMul, Nat.reduceSub, Nat.reduceLeDiff, Int.reduceToNat, Int.reduceNeg, Int.reduceLT, Int.reduceLE, Int.reduceEq, reduceCtorEq]) tn2
  have i1 : ¬ (i : Int) < n2 := by omega
  repeat' (first | simp only [go_sem, Nat.reduceLT, Nat.reduceEqDiff, Nat.reduceAdd, Nat.reduceMul, Nat.reduceSub, Nat.reduceLeDiff, Int.reduceToNat, Int.reduceNeg, Int.reduceLT, Int.reduceLE, Int.reduceEq, reduceCtorEq, Int.natCast_zero, Int.natCast_one, Int.cast_ofNat_Int, Bool.not_not, false_eq_decide, true_eq_decide, hread0, hreadk, read_cons0, read_consk, astore_h0, astore_hk, hget0, hgetk, hset0, hsetk, hlen, hcat, Nat.add_assoc, Nat.add_zero, Nat.zero_add, List.length_append, and_true, true_and, AV.flat, gq, get_app gq, read_get gq, read_app gq, hvw, one_solid hvw, one_cells hvw, hv1, one_solid hv1, one_cells hv1, hv2, one_solid hv2, one_cells hv2, hv3, one_solid hv3, one_cells hv3, *, -hK, -tn, -hlt, -hlw, -ow, -ck1, -sm] | with_reducible refine IfB_dec (fun h => ?_) (fun h => ?_) | with_reducible refine Guard_dec (fun h => ?_) (fun h => ?_) | with_reducible refine Guard_ndec (fun h => ?_) (fun h => ?_) | with_reducible refine Guard_not (fun h => ?_) (fun h => ?_) | with_reducible refine IfB_ndec (fun h => ?_) (fun h => ?_) | with_reducible refine IfB_not (fun h => ?_) (fun h => ?_) | with_reducible refine Guard_split (fun h => ?_) (fun h => ?_) | with_reducible refine IfB_split (fun h => ?_) (fun h => ?_))
  clear e9 gq hvw ow hlw hlt i1 hfi hi
  clear lw
  refine WX_loopS [2, 5, 6, 10, 14] (fun kn fr' J => ∃ i : Nat, kn = n3 - i ∧ i ≤ n3 ∧ fr'.get 28 = .int .i64 i ∧ Tn q o b6 b10 b14 va ka vh kh vx kx n1 n2 n3 J) n3 ⟨0, rfl, by omega, by simp only [go_sem, Nat.reduceLT, Nat.reduceEqDiff, Nat.reduceAdd, Nat.reduceMul, Nat.reduceSub, Nat.reduceLeDiff, Int.reduceToNat, Int.reduceNeg, Int.reduceLT, Int.reduceLE, Int.reduceEq, reduceCtorEq]; rfl, tn⟩ ?_
  try have o2 := s2
  try have o5 := s5
  try have o6 := s6
  try have o10 := s10
  try have o14 := s14
  clear tn
  try clear hs s2 s5 s6 s10 s14
  try clear hR
  try clear hA hg
  rintro kn fr' J A R hA hs hg hR ⟨i, rfl, hi, hfi, tn⟩
  have s2 := hg 2 (by decide)
  have s5 := hg 5 (by decide)
  have s6 := hg 6 (by decide)
  have s10 := hg 10 (by decide)
  have s14 := hg 14 (by decide)
  simp only [Fr.get_put, Fr.get_init, List.getD_cons_zero, List.getD_cons_succ, Nat.reduceEqDiff, if_true, if_false] at s2 s5 s6 s10 s14
  try rw [o2] at s2
  try rw [o5] at s5
  try rw [o6] at s6
  try rw [o10] at s10
  try rw [o14] at s14
  try clear o2 o5 o6 o10 o14
  refine wx_sound hT _ ?_
  obtain ⟨lw, hlw, ow⟩ := tn.ox
  have hvw := ow.one
  have gq := tn.g14
  have e9 := ow.alen (T := T) (by decide) tk22
  rw [hlw] at e9
  by_cases hlt : i < n3
  · have i1 : (i : Int) < n3 := by omega
    have e7 : IntKind.i64.wrap ((i : Int) + 1) = ((i + 1 : Nat) : Int) := by rw [IntKind.wrap_i64]; omega
    have back : ∀ fr2 J2, A fr2 → fr2.get 28 = .int .i64 ((i + 1 : Nat) : Int) → Tn q o b6 b10 b14 va ka vh kh vx kx n1 n2 n3 J2 → R fr2 J2 := fun fr2 J2 ha q1 q2 => hR fr2 J2 ha (n3 - (i + 1)) (by omega) ⟨i + 1, rfl, by omega, q1, q2⟩
    clear hR
    obtain ⟨b', o', H2, w1, w2, w3, w4, w5⟩ := ow.set (by decide) se22 (i := i) (by omega) (k := .i64) rfl (te := 9) (by simp only [asize, td9, Option.map_some]; rfl) (x := [116, 117, 114, 110, 101, 100]) (a := .str [116, 117, 114, 110, 101, 100]) rfl rfl
    rw [← w5] at w4
    have tn2 := tn.wx (by rw [List.length_set]; exact hlw) w3 w4
    repeat' (first | simp only [go_sem, Nat.reduceLT, Nat.reduceEqDiff, Nat.reduceAdd, Nat.reduceMul, Nat.reduceSub, Nat.reduceLeDiff, Int.reduceToNat, Int.reduceNeg, Int.reduceLT, Int.reduceLE, Int.reduceEq, reduceCtorEq, Int.natCast_zero, Int.natCast_one, Int.cast_ofNat_Int, Bool.not_not, false_eq_decide, true_eq_decide, hread0, hreadk, read_cons0, read_consk, astore_h0, astore_hk, hget0, hgetk, hset0, hsetk, hlen, hcat, Nat.add_assoc, Nat.add_zero, Nat.zero_add, List.length_append, and_true, true_and, AV.flat, gq, get_app gq, read_get gq, read_app gq, hvw, one_solid hvw, one_cells hvw, hv1, one_solid hv1, one_cells hv1, hv2, one_solid hv2, one_cells hv2, hv3, one_solid hv3, one_cells hv3, *, -hK, -tn, -hlt, -hlw, -ow, -w3, -w4, -w5, -tn2, -back, -ck1, -sm] | with_reducible refine IfB_dec (fun h => ?_) (fun h => ?_) | with_reducible refine Guard_dec (fun h => ?_) (fun h => ?_) | with_reducible refine Guard_ndec (fun h => ?_) (fun h => ?_) | with_reducible refine Guard_not (fun h => ?_) (fun h => ?_) | with_reducible refine IfB_ndec (fun h => ?_) (fun h => ?_) | with_reducible refine IfB_not (fun h => ?_) (fun h => ?_) | with_reducible refine Guard_split (fun h => ?_) (fun h => ?_) | with_reducible refine IfB_split (fun h => ?_) (fun h => ?_))
    exact back _ _ (by (repeat (first | exact hs | refine hA _ _ _ (by decide) ?_))) (by simp only [go_sem, Nat.reduceLT, Nat.reduceEqDiff, Nat.reduceAdd, Nat.reduceMul, Nat.reduceSub, Nat.reduceLeDiff, Int.reduceToNat, Int.reduceNeg, Int.reduceLT, Int.reduceLE, Int.reduceEq, reduceCtorEq]) tn2
  have i1 : ¬ (i : Int) < n3 := by omega
  repeat' (first | simp only [go_sem, Nat.reduceLT, Nat.reduceEqDiff, Nat.reduceAdd, Nat.reduceMul, Nat.reduceSub, Nat.reduceLeDiff, Int.reduceToNat, Int.reduceNeg, Int.reduceLT, Int.reduceLE, Int.reduceEq, reduceCtorEq, Int.natCast_zero, Int.natCast_one, Int.cast_ofNat_Int, Bool.not_not, false_eq_decide, true_eq_decide, hread0, hreadk, read_cons0, read_consk, astore_h0, astore_hk, hget0, hgetk, hset0, hsetk, hlen, hcat, Nat.add_assoc, Nat.add_zero, Nat.zero_add, List.length_append, and_true, true_and, AV.flat, gq, get_app gq, read_get gq, read_app gq, hvw, one_solid hvw, one_cells hvw, hv1, one_solid hv1, one_cells hv1, hv2, one_solid hv2, one_cells hv2, hv3, one_solid hv3, one_cells hv3, *, -hK, -tn, -hlt, -hlw, -ow, -ck1, -sm] | with_reducible refine IfB_dec (fun h => ?_) (fun h => ?_) | with_reducible refine Guard_dec (fun h => ?_) (fun h => ?_) | with_reducible refine Guard_ndec (fun h => ?_) (fun h => ?_) | with_reducible refine Guard_not (fun h => ?_) (fun h => ?_) | with_reducible refine IfB_ndec (fun h => ?_) (fun h => ?_) | with_reducible refine IfB_not (fun h => ?_) (fun h => ?_) | with_reducible refine Guard_split (fun h => ?_) (fun h => ?_) | with_reducible refine IfB_split (fun h => ?_) (fun h => ?_))
  clear e9 gq hvw ow hlw hlt i1 hfi hi
  clear lw
  have g2 := tn.g2
  have g5 := tn.g5
  clear tn
  repeat' (first | simp only [go_sem, Nat.reduceLT, Nat.reduceEqDiff, Nat.reduceAdd, Nat.reduceMul, Nat.reduceSub, Nat.reduceLeDiff, Int.reduceToNat, Int.reduceNeg, Int.reduceLT, Int.reduceLE, Int.reduceEq, reduceCtorEq, Int.natCast_zero, Int.natCast_one, Int.cast_ofNat_Int, Bool.not_not, false_eq_decide, true_eq_decide, hread0, hreadk, read_cons0, read_consk, astore_h0, astore_hk, hget0, hgetk, hset0, hsetk, hlen, hcat, Nat.add_assoc, Nat.add_zero, Nat.zero_add, List.length_append, and_true, true_and, AV.flat, g2, get_app g2, read_get g2, read_app g2, g5, get_app g5, read_get g5, read_app g5, *, -hK, -ck1, -sm] | refine WC.call (sm _) ?_ | with_reducible refine IfB_dec (fun h => ?_) (fun h => ?_) | with_reducible refine Guard_dec (fun h => ?_) (fun h => ?_) | with_reducible refine Guard_ndec (fun h => ?_) (fun h => ?_) | with_reducible refine Guard_not (fun h => ?_) (fun h => ?_) | with_reducible refine IfB_ndec (fun h => ?_) (fun h => ?_) | with_reducible refine IfB_not (fun h => ?_) (fun h => ?_) | with_reducible refine Guard_split (fun h => ?_) (fun h => ?_) | with_reducible refine IfB_split (fun h => ?_) (fun h => ?_))
  exact hK _ _ rfl
end Go.Proofs.Ytakllaigpjbgdaa
