import Derived.Test.YtccfhighlpfdmaaTrkS2
import Derived.Test.YtccfhighlpfdmaaTrkF2
import Derived.Test.YtccfhighlpfdmaaTrkW
import Derived.Test.YtccfhighlpfdmaaPiYb
set_option linter.unusedSimpArgs false
set_option linter.unusedVariables false
set_option maxRecDepth 100000
set_option maxHeartbeats 4000000
namespace Go.Proofs.Ytccfhighlpfdmaa
open Go Go.Proofs Go.Proofs.PI
theorem trackTells_walk (avs : List AV) (h : InpPAll T 9 [24, 3, 3, 38, 25] avs) : WC Try.prog 7 avs [] fun v _ => v = .bool true := by
  obtain ⟨a0, _, rfl, h0, h⟩ := h.cons
  obtain ⟨a1, _, rfl, h1, h⟩ := h.cons
  obtain ⟨a2, _, rfl, h2, h⟩ := h.cons
  obtain ⟨a3, _, rfl, h3, h⟩ := h.cons
  obtain ⟨a4, _, rfl, h4, h⟩ := h.cons
  obtain rfl := h.nil
  obtain ⟨l, rfl, hl, hf⟩ := inp_track h0
  obtain ⟨ns, rfl, -⟩ := InpPV.int tk3 h1
  obtain ⟨ci, rfl, -⟩ := InpPV.int tk3 h2
  obtain ⟨n, rfl, -⟩ := inp_nameV h3
  obtain ⟨cs, rfl, hok, hcn⟩ := inp_changes h4
  clear h0 h1 h2 h3 h4 h
  generalize ([] : Heap) = H
  refine WC_of_K fun K hK => ?_
  have hns : ∀ t ∈ l, t.ns.length ≤ 140737488355328 := fun t ht => (hf t ht).1
  have gr := fun J => great_spec l hl hf J
  have hv := fun J => heavyC_spec cs hcn J
  unfold trAv Nm.av at *
  refine WC_of_body hT Try.func7 rfl (by simp [Try.f7]) (by simp [Try.f7]) (wx_sound hT _ ?_)
  simp only [Try.f7]
  repeat' (first | simp only [go_sem, Nat.reduceLT, Nat.reduceEqDiff, Nat.reduceAdd, Nat.reduceMul, Nat.reduceSub, Nat.reduceLeDiff, Int.reduceToNat, Int.reduceNeg, Int.reduceLT, Int.reduceLE, Int.reduceEq, reduceCtorEq, Int.natCast_zero, Int.natCast_one, Int.cast_ofNat_Int, Bool.not_not, false_eq_decide, true_eq_decide, hread0, hreadk, read_cons0, read_consk, astore_h0, astore_hk, hget0, hgetk, hset0, hsetk, hlen, hcat, Nat.add_assoc, Nat.add_zero, Nat.zero_add, List.length_append, and_true, true_and, AV.flat, *, -hK, -gr, -hv, -hf, -hok, -hns] | with_reducible refine IfB_dec (fun h => ?_) (fun h => ?_) | with_reducible refine Guard_dec (fun h => ?_) (fun h => ?_) | with_reducible refine Guard_ndec (fun h => ?_) (fun h => ?_) | with_reducible refine Guard_not (fun h => ?_) (fun h => ?_) | with_reducible refine IfB_ndec (fun h => ?_) (fun h => ?_) | with_reducible refine IfB_not (fun h => ?_) (fun h => ?_) | with_reducible refine Guard_split (fun h => ?_) (fun h => ?_) | with_reducible refine IfB_split (fun h => ?_) (fun h => ?_))
  refine (gr _).mono ?_
  rintro r1 H1 ⟨⟨bl, rfl, hbl⟩, rfl⟩
  cases bl with
  | true =>
    repeat' (first | simp only [go_sem, Nat.reduceLT, Nat.reduceEqDiff, Nat.reduceAdd, Nat.reduceMul, Nat.reduceSub, Nat.reduceLeDiff, Int.reduceToNat, Int.reduceNeg, Int.reduceLT, Int.reduceLE, Int.reduceEq, reduceCtorEq, Int.natCast_zero, Int.natCast_one, Int.cast_ofNat_Int, Bool.not_not, false_eq_decide, true_eq_decide, hread0, hreadk, read_cons0, read_consk, astore_h0, astore_hk, hget0, hgetk, hset0, hsetk, hlen, hcat, Nat.add_assoc, Nat.add_zero, Nat.zero_add, List.length_append, and_true, true_and, AV.flat, *, -hK, -hv, -hf, -hok, -hns] | with_reducible refine IfB_dec (fun h => ?_) (fun h => ?_) | with_reducible refine Guard_dec (fun h => ?_) (fun h => ?_) | with_reducible refine Guard_ndec (fun h => ?_) (fun h => ?_) | with_reducible refine Guard_not (fun h => ?_) (fun h => ?_) | with_reducible refine IfB_ndec (fun h => ?_) (fun h => ?_) | with_reducible refine IfB_not (fun h => ?_) (fun h => ?_) | with_reducible refine Guard_split (fun h => ?_) (fun h => ?_) | with_reducible refine IfB_split (fun h => ?_) (fun h => ?_))
    exact hK _ _ rfl
  | false =>
  clear gr
  repeat' (first | simp only [go_sem, Nat.reduceLT, Nat.reduceEqDiff, Nat.reduceAdd, Nat.reduceMul, Nat.reduceSub, Nat.reduceLeDiff, Int.reduceToNat, Int.reduceNeg, Int.reduceLT, Int.reduceLE, Int.reduceEq, reduceCtorEq, Int.natCast_zero, Int.natCast_one, Int.cast_ofNat_Int, Bool.not_not, false_eq_decide, true_eq_decide, hread0, hreadk, read_cons0, read_consk, astore_h0, astore_hk, hget0, hgetk, hset0, hsetk, hlen, hcat, Nat.add_assoc, Nat.add_zero, Nat.zero_add, List.length_append, and_true, true_and, AV.flat, *, -hK, -hv, -hf, -hok, -hns, -hbl] | with_reducible refine IfB_dec (fun h => ?_) (fun h => ?_) | with_reducible refine Guard_dec (fun h => ?_) (fun h => ?_) | with_reducible refine Guard_ndec (fun h => ?_) (fun h => ?_) | with_reducible refine Guard_not (fun h => ?_) (fun h => ?_) | with_reducible refine IfB_ndec (fun h => ?_) (fun h => ?_) | with_reducible refine IfB_not (fun h => ?_) (fun h => ?_) | with_reducible refine Guard_split (fun h => ?_) (fun h => ?_) | with_reducible refine IfB_split (fun h => ?_) (fun h => ?_))
  refine (hv _).mono ?_
  rintro r1 H1 ⟨⟨bl, rfl, hb2⟩, rfl⟩
  cases bl with
  | true =>
    repeat' (first | simp only [go_sem, Nat.reduceLT, Nat.reduceEqDiff, Nat.reduceAdd, Nat.reduceMul, Nat.reduceSub, Nat.reduceLeDiff, Int.reduceToNat, Int.reduceNeg, Int.reduceLT, Int.reduceLE, Int.reduceEq, reduceCtorEq, Int.natCast_zero, Int.natCast_one, Int.cast_ofNat_Int, Bool.not_not, false_eq_decide, true_eq_decide, hread0, hreadk, read_cons0, read_consk, astore_h0, astore_hk, hget0, hgetk, hset0, hsetk, hlen, hcat, Nat.add_assoc, Nat.add_zero, Nat.zero_add, List.length_append, and_true, true_and, AV.flat, *, -hK, -hf, -hok, -hns, -hbl] | with_reducible refine IfB_dec (fun h => ?_) (fun h => ?_) | with_reducible refine Guard_dec (fun h => ?_) (fun h => ?_) | with_reducible refine Guard_ndec (fun h => ?_) (fun h => ?_) | with_reducible refine Guard_not (fun h => ?_) (fun h => ?_) | with_reducible refine IfB_ndec (fun h => ?_) (fun h => ?_) | with_reducible refine IfB_not (fun h => ?_) (fun h => ?_) | with_reducible refine Guard_split (fun h => ?_) (fun h => ?_) | with_reducible refine IfB_split (fun h => ?_) (fun h => ?_))
    exact hK _ _ rfl
  | false =>
  clear hv
  by_cases i1 : (n.key.length : Int) > 10000
  · skip
    repeat' (first | simp only [go_sem, Nat.reduceLT, Nat.reduceEqDiff, Nat.reduceAdd, Nat.reduceMul, Nat.reduceSub, Nat.reduceLeDiff, Int.reduceToNat, Int.reduceNeg, Int.reduceLT, Int.reduceLE, Int.reduceEq, reduceCtorEq, Int.natCast_zero, Int.natCast_one, Int.cast_ofNat_Int, Bool.not_not, false_eq_decide, true_eq_decide, hread0, hreadk, read_cons0, read_consk, astore_h0, astore_hk, hget0, hgetk, hset0, hsetk, hlen, hcat, Nat.add_assoc, Nat.add_zero, Nat.zero_add, List.length_append, and_true, true_and, AV.flat, *, -hK, -hf, -hok, -hns, -hbl, -hb2] | with_reducible refine IfB_dec (fun h => ?_) (fun h => ?_) | with_reducible refine Guard_dec (fun h => ?_) (fun h => ?_) | with_reducible refine Guard_ndec (fun h => ?_) (fun h => ?_) | with_reducible refine Guard_not (fun h => ?_) (fun h => ?_) | with_reducible refine IfB_ndec (fun h => ?_) (fun h => ?_) | with_reducible refine IfB_not (fun h => ?_) (fun h => ?_) | with_reducible refine Guard_split (fun h => ?_) (fun h => ?_) | with_reducible refine IfB_split (fun h => ?_) (fun h => ?_))
    exact hK _ _ rfl
  obtain ⟨h30, h1000⟩ := hbl rfl
  have hc5 := hb2 rfl
  clear hbl hb2 hf
  have hB : bnd l := ⟨by omega, fun t ht => by have := h1000 t ht; omega⟩
  have tw := fun J => refTwin_spec l (by omega) h1000 J
  unfold trAv at tw
  have src := fun J => src_enc (T := T) (H := J) (E := chgE) (xs := cs) tk25
  repeat' (first | simp only [go_sem, Nat.reduceLT, Nat.reduceEqDiff, Nat.reduceAdd, Nat.reduceMul, Nat.reduceSub, Nat.reduceLeDiff, Int.reduceToNat, Int.reduceNeg, Int.reduceLT, Int.reduceLE, Int.reduceEq, reduceCtorEq, Int.natCast_zero, Int.natCast_one, Int.cast_ofNat_Int, Bool.not_not, false_eq_decide, true_eq_decide, hread0, hreadk, read_cons0, read_consk, astore_h0, astore_hk, hget0, hgetk, hset0, hsetk, hlen, hcat, Nat.add_assoc, Nat.add_zero, Nat.zero_add, List.length_append, and_true, true_and, AV.flat, *, -hK, -hok, -hns, -h1000, -hB, -tw, -src] | refine WC.call (tw _) ?_ | with_reducible refine IfB_dec (fun h => ?_) (fun h => ?_) | with_reducible refine Guard_dec (fun h => ?_) (fun h => ?_) | with_reducible refine Guard_ndec (fun h => ?_) (fun h => ?_) | with_reducible refine Guard_not (fun h => ?_) (fun h => ?_) | with_reducible refine IfB_ndec (fun h => ?_) (fun h => ?_) | with_reducible refine IfB_not (fun h => ?_) (fun h => ?_) | with_reducible refine Guard_split (fun h => ?_) (fun h => ?_) | with_reducible refine IfB_split (fun h => ?_) (fun h => ?_))
  refine append_enc (E := chgE) (m := H.length) (ys := cs) (OwnE.nils chgE H.length _) se25 az45 td45 (src _) (by decide) (by show (0 + cs.length) * _ ≤ _; simp only [chgE]; omega) (by simp) ?_
  intro vc J1 oc k1 hn1
  rw [List.nil_append] at oc
  rw [show (AV.nils).blk = none from rfl] at k1
  have hvc := oc.one
  have hJ1l : H.length + 3 ≤ J1.length := by have := k1.len; simpa using this
  have g0 := k1.get (b := H.length) (B := ⟨[tkE.lst l], 0, .full⟩) (by rw [hget0]; rfl) (by simp)
  have g1 := k1.get (b := H.length + 1) (B := ⟨[.int .i64 n.ten, .str n.key], 0, .full⟩) (by rw [hgetk]; rfl) (by simp)
  have g2 := k1.get (b := H.length + 2) (B := ⟨[tkE.lst l], 0, .full⟩) (by rw [hgetk]; rfl) (by simp)
  have hvb : ∀ b, vc.blk = some b → H.length + 3 ≤ b ∧ b < J1.length := fun b hb => ⟨by rcases hn1 b hb with h | h; cases h; simpa using h, oc.lt hb⟩
  clear tw src
  have nw := fun J => new_spec ns J
  have rnw := fun J => refNew_spec ns J
  have bN := bnd_new ns
  generalize trNew ns = N at *
  obtain ⟨N1, N2⟩ := N
  have on := fun J => on_spec l ci hl hns J
  have ron := fun J => refOn_spec l ci hl hns J
  have bO := bnd_on hB ci
  have off := fun J => off_spec l ci hl hns J
  have roff := fun J => refOff_spec l ci hl hns J
  have bF := bnd_off hB ci
  have td := fun J => told_own l ci hl hns J
  have rtd := fun J => refTold_spec l ci hl hns J
  have bT := len_told hB ci
  generalize (if askE l ci = 0 then l.set ci.toNat ⟨true, (tkAt l ci.toNat).ns⟩ else []) = XO at *
  generalize (if askE l ci = 0 then l.set ci.toNat ⟨false, []⟩ else []) = XF at *
  generalize (if askE l ci = 0 then (tkAt l ci.toNat).ns else []) = XT at *
  generalize askE l ci = ea at *
  unfold trAv at nw rnw on ron off roff td rtd
  simp only at nw rnw bN
  repeat' (first | simp only [go_sem, Nat.reduceLT, Nat.reduceEqDiff, Nat.reduceAdd, Nat.reduceMul, Nat.reduceSub, Nat.reduceLeDiff, Int.reduceToNat, Int.reduceNeg, Int.reduceLT, Int.reduceLE, Int.reduceEq, reduceCtorEq, Int.natCast_zero, Int.natCast_one, Int.cast_ofNat_Int, Bool.not_not, false_eq_decide, true_eq_decide, hread0, hreadk, read_cons0, read_consk, astore_h0, astore_hk, hget0, hgetk, hset0, hsetk, hlen, hcat, Nat.add_assoc, Nat.add_zero, Nat.zero_add, List.length_append, and_true, true_and, AV.flat, hvc, one_solid hvc, one_cells hvc, g0, get_app g0, read_get g0, read_app g0, g2, get_app g2, read_get g2, read_app g2, *, -hK, -hok, -hns, -h1000, -hB, -oc, -k1, -hn1, -hvb, -nw, -rnw, -on, -ron, -off, -roff, -td, -rtd, -bN, -bO, -bF, -bT, -g1] | refine WC.call (nw _) ?_ | refine WC.call (rnw _) ?_ | refine WC.call (on _) ?_ | refine WC.call (ron _) ?_ | refine WC.call (off _) ?_ | refine WC.call (roff _) ?_ | with_reducible refine IfB_dec (fun h => ?_) (fun h => ?_) | with_reducible refine Guard_dec (fun h => ?_) (fun h => ?_) | with_reducible refine Guard_ndec (fun h => ?_) (fun h => ?_) | with_reducible refine Guard_not (fun h => ?_) (fun h => ?_) | with_reducible refine IfB_ndec (fun h => ?_) (fun h => ?_) | with_reducible refine IfB_not (fun h => ?_) (fun h => ?_) | with_reducible refine Guard_split (fun h => ?_) (fun h => ?_) | with_reducible refine IfB_split (fun h => ?_) (fun h => ?_))
  clear nw rnw on ron off roff
  generalize hG : (J1 ++ [(⟨[tkE.lst N1], 0, .full⟩ : Blk), (⟨[tkE.lst N1], 0, .full⟩ : Blk), (⟨[tkE.lst XO], 0, .full⟩ : Blk), (⟨[tkE.lst XO], 0, .full⟩ : Blk), (⟨[tkE.lst XF], 0, .full⟩ : Blk), (⟨[tkE.lst XF], 0, .full⟩ : Blk)] : Heap) = G
  have kG : Keep none J1 G := by rw [← hG]; exact Keep.app _ _ _
  have b3 : G[J1.length]? = some (⟨[tkE.lst N1], 0, .full⟩ : Blk) := by rw [← hG, hget0]; rfl
  have b4 : G[J1.length + 1]? = some (⟨[tkE.lst N1], 0, .full⟩ : Blk) := by rw [← hG, hgetk]; rfl
  have b5 : G[J1.length + 2]? = some (⟨[tkE.lst XO], 0, .full⟩ : Blk) := by rw [← hG, hgetk]; rfl
  have b6 : G[J1.length + 3]? = some (⟨[tkE.lst XO], 0, .full⟩ : Blk) := by rw [← hG, hgetk]; rfl
  have b7 : G[J1.length + 4]? = some (⟨[tkE.lst XF], 0, .full⟩ : Blk) := by rw [← hG, hgetk]; rfl
  have b8 : G[J1.length + 5]? = some (⟨[tkE.lst XF], 0, .full⟩ : Blk) := by rw [← hG, hgetk]; rfl
  have hGl : G.length = J1.length + 6 := by rw [← hG]; simp
  replace g0 := kG.get g0 (by simp)
  replace g1 := kG.get g1 (by simp)
  replace g2 := kG.get g2 (by simp)
  replace oc := oc.keep0 kG
  clear hG
  repeat' (first | simp only [go_sem, Nat.reduceLT, Nat.reduceEqDiff, Nat.reduceAdd, Nat.reduceMul, Nat.reduceSub, Nat.reduceLeDiff, Int.reduceToNat, Int.reduceNeg, Int.reduceLT, Int.reduceLE, Int.reduceEq, reduceCtorEq, Int.natCast_zero, Int.natCast_one, Int.cast_ofNat_Int, Bool.not_not, false_eq_decide, true_eq_decide, hread0, hreadk, read_cons0, read_consk, astore_h0, astore_hk, hget0, hgetk, hset0, hsetk, hlen, hcat, Nat.add_assoc, Nat.add_zero, Nat.zero_add, List.length_append, and_true, true_and, AV.flat, *, -hK, -hok, -hns, -h1000, -hB, -oc, -k1, -hn1, -hvb, -td, -rtd, -bN, -bO, -bF, -bT, -g0, -g1, -g2, -b3, -b4, -b5, -b6, -b7, -b8, -kG] | with_reducible refine IfB_dec (fun h => ?_) (fun h => ?_) | with_reducible refine Guard_dec (fun h => ?_) (fun h => ?_) | with_reducible refine Guard_ndec (fun h => ?_) (fun h => ?_) | with_reducible refine Guard_not (fun h => ?_) (fun h => ?_) | with_reducible refine IfB_ndec (fun h => ?_) (fun h => ?_) | with_reducible refine IfB_not (fun h => ?_) (fun h => ?_) | with_reducible refine Guard_split (fun h => ?_) (fun h => ?_) | with_reducible refine IfB_split (fun h => ?_) (fun h => ?_))
  refine (td _).mono ?_
  rintro r2 G2 ⟨⟨vp, rfl, op⟩, kp⟩
  have hvp := op.one
  have hpb : ∀ b, vp.blk = some b → G.length ≤ b ∧ b < G2.length := fun b h => ⟨op.ge h, op.lt h⟩
  have hG2l : J1.length + 6 ≤ G2.length := by have := kp.len; omega
  replace g0 := (kp).get g0 (by simp)
  replace g1 := (kp).get g1 (by simp)
  replace g2 := (kp).get g2 (by simp)
  replace b3 := (kp).get b3 (by simp)
  replace b4 := (kp).get b4 (by simp)
  replace b5 := (kp).get b5 (by simp)
  replace b6 := (kp).get b6 (by simp)
  replace b7 := (kp).get b7 (by simp)
  replace b8 := (kp).get b8 (by simp)
  replace oc := oc.keep0 kp
  have rd := fun J => trRead_own l ci n hl hns J
  have rrd := fun J => refRead_spec l ci n hl hns J
  have bR := bnd_read hB ci n
  generalize trRead l ci n = R at *
  obtain ⟨⟨XR, PR⟩, eR⟩ := R
  unfold trAv Nm.av at rd rrd
  simp only at rd rrd bR
  repeat' (first | simp only [go_sem, Nat.reduceLT, Nat.reduceEqDiff, Nat.reduceAdd, Nat.reduceMul, Nat.reduceSub, Nat.reduceLeDiff, Int.reduceToNat, Int.reduceNeg, Int.reduceLT, Int.reduceLE, Int.reduceEq, reduceCtorEq, Int.natCast_zero, Int.natCast_one, Int.cast_ofNat_Int, Bool.not_not, false_eq_decide, true_eq_decide, hread0, hreadk, read_cons0, read_consk, astore_h0, astore_hk, hget0, hgetk, hset0, hsetk, hlen, hcat, Nat.add_assoc, Nat.add_zero, Nat.zero_add, List.length_append, and_true, true_and, AV.flat, hvp, one_solid hvp, one_cells hvp, g0, get_app g0, read_get g0, read_app g0, g1, get_app g1, read_get g1, read_app g1, g2, get_app g2, read_get g2, read_app g2, *, -hK, -hok, -hns, -h1000, -hB, -hpb, -oc, -k1, -hn1, -hvb, -td, -rtd, -bN, -bO, -bF, -bT, -b3, -b4, -b5, -b6, -b7, -b8, -kG, -op, -kp, -hGl, -rd, -rrd, -bR, -hG2l] | refine WC.call (rtd _) ?_ | with_reducible refine IfB_dec (fun h => ?_) (fun h => ?_) | with_reducible refine Guard_dec (fun h => ?_) (fun h => ?_) | with_reducible refine Guard_ndec (fun h => ?_) (fun h => ?_) | with_reducible refine Guard_not (fun h => ?_) (fun h => ?_) | with_reducible refine IfB_ndec (fun h => ?_) (fun h => ?_) | with_reducible refine IfB_not (fun h => ?_) (fun h => ?_) | with_reducible refine Guard_split (fun h => ?_) (fun h => ?_) | with_reducible refine IfB_split (fun h => ?_) (fun h => ?_))
  refine (rd _).mono ?_
  rintro r3 G3 ⟨⟨vu, pu, rfl, ou, opu⟩, ku⟩
  have hvu := ou.one
  have uu := ou.u
  have hpu := opu.one
  have hG3l : G2.length ≤ G3.length := ku.len
  replace g0 := (ku).get g0 (by simp)
  replace g1 := (ku).get g1 (by simp)
  replace g2 := (ku).get g2 (by simp)
  replace b3 := (ku).get b3 (by simp)
  replace b4 := (ku).get b4 (by simp)
  replace b5 := (ku).get b5 (by simp)
  replace b6 := (ku).get b6 (by simp)
  replace b7 := (ku).get b7 (by simp)
  replace b8 := (ku).get b8 (by simp)
  replace oc := oc.keep0 ku
  have op3 := op.keep0 ku
  repeat' (first | simp only [go_sem, Nat.reduceLT, Nat.reduceEqDiff, Nat.reduceAdd, Nat.reduceMul, Nat.reduceSub, Nat.reduceLeDiff, Int.reduceToNat, Int.reduceNeg, Int.reduceLT, Int.reduceLE, Int.reduceEq, reduceCtorEq, Int.natCast_zero, Int.natCast_one, Int.cast_ofNat_Int, Bool.not_not, false_eq_decide, true_eq_decide, hread0, hreadk, read_cons0, read_consk, astore_h0, astore_hk, hget0, hgetk, hset0, hsetk, hlen, hcat, Nat.add_assoc, Nat.add_zero, Nat.zero_add, List.length_append, and_true, true_and, AV.flat, hvp, one_solid hvp, one_cells hvp, hvu, one_solid hvu, one_cells hvu, hpu, one_solid hpu, one_cells hpu, *, -hK, -hok, -hns, -h1000, -hB, -hpb, -uu, -oc, -k1, -hn1, -hvb, -td, -rtd, -bN, -bO, -bF, -bT, -b3, -b4, -b5, -b6, -b7, -b8, -kG, -op, -kp, -hGl, -g0, -g1, -g2, -rd, -rrd, -bR, -hG2l, -ou, -opu, -ku, -hG3l, -op3] | with_reducible refine IfB_dec (fun h => ?_) (fun h => ?_) | with_reducible refine Guard_dec (fun h => ?_) (fun h => ?_) | with_reducible refine Guard_ndec (fun h => ?_) (fun h => ?_) | with_reducible refine Guard_not (fun h => ?_) (fun h => ?_) | with_reducible refine IfB_ndec (fun h => ?_) (fun h => ?_) | with_reducible refine IfB_not (fun h => ?_) (fun h => ?_) | with_reducible refine Guard_split (fun h => ?_) (fun h => ?_) | with_reducible refine IfB_split (fun h => ?_) (fun h => ?_))
  have a0 := get_app g0 [(⟨[vu], 0, .full⟩ : Blk)]
  have a1 := get_app g1 [(⟨[vu], 0, .full⟩ : Blk)]
  have a2 := get_app g2 [(⟨[vu], 0, .full⟩ : Blk)]
  repeat' (first | simp only [go_sem, Nat.reduceLT, Nat.reduceEqDiff, Nat.reduceAdd, Nat.reduceMul, Nat.reduceSub, Nat.reduceLeDiff, Int.reduceToNat, Int.reduceNeg, Int.reduceLT, Int.reduceLE, Int.reduceEq, reduceCtorEq, Int.natCast_zero, Int.natCast_one, Int.cast_ofNat_Int, Bool.not_not, false_eq_decide, true_eq_decide, hread0, hreadk, read_cons0, read_consk, astore_h0, astore_hk, hget0, hgetk, hset0, hsetk, hlen, hcat, Nat.add_assoc, Nat.add_zero, Nat.zero_add, List.length_append, and_true, true_and, AV.flat, hvp, one_solid hvp, one_cells hvp, hvu, one_solid hvu, one_cells hvu, hpu, one_solid hpu, one_cells hpu, a0, get_app a0, read_get a0, read_app a0, a1, get_app a1, read_get a1, read_app a1, a2, get_app a2, read_get a2, read_app a2, *, -hK, -hok, -hns, -h1000, -hB, -hpb, -uu, -oc, -k1, -hn1, -hvb, -bN, -bO, -bF, -bT, -kG, -op, -kp, -hGl, -hG2l, -ou, -opu, -ku, -hG3l, -op3, -bR, -b3, -b4, -b5, -b6, -b7, -b8, -rrd, -g0, -g1, -g2] | refine WC.call (rrd _) ?_ | with_reducible refine IfB_dec (fun h => ?_) (fun h => ?_) | with_reducible refine Guard_dec (fun h => ?_) (fun h => ?_) | with_reducible refine Guard_ndec (fun h => ?_) (fun h => ?_) | with_reducible refine Guard_not (fun h => ?_) (fun h => ?_) | with_reducible refine IfB_ndec (fun h => ?_) (fun h => ?_) | with_reducible refine IfB_not (fun h => ?_) (fun h => ?_) | with_reducible refine Guard_split (fun h => ?_) (fun h => ?_) | with_reducible refine IfB_split (fun h => ?_) (fun h => ?_))
  clear a0 a1 a2 rrd rd td rtd
  generalize hG4 : (G3 ++ [(⟨[vu], 0, .full⟩ : Blk), (⟨[tkE.lst XR], 0, .full⟩ : Blk)] : Heap) = G4
  have k4 : Keep none G3 G4 := by rw [← hG4]; exact Keep.app _ _ _
  have b9 : G4[G3.length]? = some (⟨[vu], 0, .full⟩ : Blk) := by rw [← hG4, hget0]; rfl
  have bA : G4[G3.length + 1]? = some (⟨[tkE.lst XR], 0, .full⟩ : Blk) := by rw [← hG4, hgetk]; rfl
  have hG4l : G4.length = G3.length + 2 := by rw [← hG4]; simp
  replace g0 := (k4).get g0 (by simp)
  replace g1 := (k4).get g1 (by simp)
  replace g2 := (k4).get g2 (by simp)
  replace b3 := (k4).get b3 (by simp)
  replace b4 := (k4).get b4 (by simp)
  replace b5 := (k4).get b5 (by simp)
  replace b6 := (k4).get b6 (by simp)
  replace b7 := (k4).get b7 (by simp)
  replace b8 := (k4).get b8 (by simp)
  clear hG4
  replace oc := oc.keep0 k4
  have op4 := op3.keep0 k4
  have ou4 := ou.keep k4
  replace uu := uu.moved (G := G4) (fun b _ h => k4.at_ b h (by simp))
  have opu4 := opu.keep0 k4
  have sN := fun J => same_bnd bN J
  have sO := fun J => same_bnd bO J
  have sF := fun J => same_bnd bF J
  have snl := names_lent op4 bT
  have sul := same_lent ou4 bR.1
  have spl := pushes_lent opu4 (by have := bR.2; omega)
  have ck := fun J => trCheck_spec l hl hns J
  have rck := fun J => refTrCheck_spec l hl hns J
  generalize trE l = te at *
  unfold trAv at sN sO sF sul ck rck
  refine WX_rows hT hmix [(0, none), (1, none), (2, some [true, true]), (3, none), (4, none), (5, none), (6, none), (7, none), (8, none), (9, none), (10, none), (11, none), (12, some [true, true, true, true, true, true, true, true, true, true, true, true]), (13, none), (14, none), (15, none), (16, none), (17, none), (18, none), (19, none), (20, none), (21, none), (22, none), (23, some [true, true, true, true, true, true, true, true, true, true, true, true, true, true, true, true, true, true, true, true, true, true, true]), (24, none), (25, none), (26, none), (27, none), (28, none), (29, none), (30, none), (31, none), (32, none), (33, none), (34, some [true, true, true, true, true, true, true, true, true, true, true, true, true, true, true, true, true, true, true, true, true, true, true, true, true, true, true, true, true, true, true, true, true, true]), (35, none), (36, none), (37, none), (38, none), (39, none), (40, none), (41, none), (42, none), (43, none), (44, none), (45, some [true, true, true, true, true, true, true, true, true, true, true, true, true, true, true, true, true, true, true, true, true, true, true, true, true, true, true, true, true, true, true, true, true, true, true, true, true, true, true, true, true, true, true, true, true]), (46, none), (47, none), (48, none), (49, none), (50, none), (51, some [true, true, true, true, true, true, true, true, true, true, true, true, true, true, true, true, true, true, true, true, true, true, true, true, true, true, true, true, true, true, true, true, true, true, true, true, true, true, true, true, true, true, true, true, true, true, true, true, true, true, true]), (52, none), (53, none), (54, none), (55, none), (56, none), (57, none), (58, none), (59, none), (60, none), (62, none), (61, some [false, true, true, true, true, true, true, true, true, true, true, true, true, true, true, true, true, true, true, true, true, true, true, true, true, true, true, true, true, true, true, true, true, true, true, true, true, true, true, true, true, true, true, true, true, true, true, true, true, true, true, true, true, true, true, true, true, true, true, true, true, true]), (63, some [true, true, true, true, true, true, true, true, true, true, true, true, true, true, true, true, true, true, true, true, true, true, true, true, true, true, true, true, true, true, true, true, true, true, true, true, true, true, true, true, true, true, true, true, true, true, true, true, true, true, true, true, true, true, true, true, true, true, true, true, true, true, true]), (64, none), (65, none)] (by kernel_rfl) ?_
  simp only [List.append_eq, List.cons_append, List.nil_append]
  repeat' (first | simp only [go_sem, Nat.reduceLT, Nat.reduceEqDiff, Nat.reduceAdd, Nat.reduceMul, Nat.reduceSub, Nat.reduceLeDiff, Int.reduceToNat, Int.reduceNeg, Int.reduceLT, Int.reduceLE, Int.reduceEq, reduceCtorEq, Int.natCast_zero, Int.natCast_one, Int.cast_ofNat_Int, Bool.not_not, false_eq_decide, true_eq_decide, hread0, hreadk, read_cons0, read_consk, astore_h0, astore_hk, hget0, hgetk, hset0, hsetk, hlen, hcat, Nat.add_assoc, Nat.add_zero, Nat.zero_add, List.length_append, and_true, true_and, AV.flat, hvp, one_solid hvp, one_cells hvp, hvu, one_solid hvu, one_cells hvu, hpu, one_solid hpu, one_cells hpu, g0, get_app g0, read_get g0, read_app g0, g1, get_app g1, read_get g1, read_app g1, g2, get_app g2, read_get g2, read_app g2, b3, get_app b3, read_get b3, read_app b3, b4, get_app b4, read_get b4, read_app b4, b5, get_app b5, read_get b5, read_app b5, b6, get_app b6, read_get b6, read_app b6, b7, get_app b7, read_get b7, read_app b7, b8, get_app b8, read_get b8, read_app b8, b9, get_app b9, read_get b9, read_app b9, bA, get_app bA, read_get bA, read_app bA, *, -hK, -hok, -hns, -h1000, -hB, -hpb, -uu, -oc, -k1, -hn1, -hvb, -bN, -bO, -bF, -bT, -kG, -op, -kp, -hGl, -hG2l, -ou, -opu, -ku, -hG3l, -op3, -bR, -sN, -sO, -sF, -snl, -sul, -spl, -ck, -rck, -k4, -hG4l, -op4, -ou4, -opu4] | refine WC.call (sN _) ?_ | refine WC.call (sO _) ?_ | refine WC.call (sF _) ?_ | refine WC.call (snl) ?_ | refine WC.call (sul) ?_ | refine WC.call (spl) ?_ | refine WC.call (ck _) ?_ | refine WC.call (rck _) ?_ | with_reducible refine IfB_dec (fun h => ?_) (fun h => ?_) | with_reducible refine Guard_dec (fun h => ?_) (fun h => ?_) | with_reducible refine Guard_ndec (fun h => ?_) (fun h => ?_) | with_reducible refine Guard_not (fun h => ?_) (fun h => ?_) | with_reducible refine IfB_ndec (fun h => ?_) (fun h => ?_) | with_reducible refine IfB_not (fun h => ?_) (fun h => ?_) | with_reducible refine Guard_split (fun h => ?_) (fun h => ?_) | with_reducible refine IfB_split (fun h => ?_) (fun h => ?_))
  refine WC_freezeE [.agg [tkE.lst l], chgE.lst cs] (E := chgE) oc (by decide) ⟨.same _, .here, trivial⟩ ?_
  intro G5 hF
  have hFk := hF.keep
  have vsc : Vs G5 vc 11 cs.length (chgE.row cs) := hF.vs (oc.vs (by decide))
  have hG5l : G5.length = G4.length := hF.len
  have hnb : ∀ b, J1.length ≤ b → vc.blk ≠ some b := fun b h e => by have := hvb _ e; omega
  replace g0 := hFk.get g0 (fun e => by have := hvb _ e; omega)
  replace g2 := hFk.get g2 (fun e => by have := hvb _ e; omega)
  replace b9 := hFk.get b9 (hnb _ (by omega))
  have op5 := op4.keep hFk (fun b hb e => by have := hvb _ hb; have := op4.ge e; omega)
  replace uu := uu.moved (G := G5) (fun b h1 h2 => hFk.at_ b (by omega) (hnb b (by omega)))
  have ou5 := ou4.low (G := G5) (fun b h1 h2 => hFk.at_ b h2 (hnb b (by omega)))
  clear hF hFk b3 b4 b5 b6 b7 b8 bA g1 sN sO sF snl sul spl ck rck oc opu opu4 op3 op4 ou ou4 op kp ku k4 kG
  have cg := fun J => change_own l cs hl hns hcn hok J
  have rcg := fun J => refChange_spec l cs hl hns hcn hok J
  have bC := bnd_chg (l := l) cs
  generalize trChg l cs = C at *
  obtain ⟨⟨XC, PC⟩, eC⟩ := C
  unfold trAv at cg rcg
  simp only at cg rcg bC
  refine (cg _).mono ?_
  rintro r5 G6 ⟨⟨vg, pg, rfl, og, opg⟩, kg⟩
  clear cg
  have hvg := og.one
  have hpg := opg.one
  have hG6l : G5.length ≤ G6.length := kg.len
  replace g0 := kg.get g0 (by simp)
  replace g2 := kg.get g2 (by simp)
  replace b9 := kg.get b9 (by simp)
  replace vsc := vsc.keep0 kg
  replace op5 := op5.keep0 kg
  replace ou5 := ou5.keep kg
  replace uu := uu.moved (G := G6) (fun b _ h => kg.at_ b (by omega) (by simp))
  have ug := og.u
  have q0 := get_app g0 [(⟨[vg], 0, .full⟩ : Blk)]
  repeat' (first | simp only [go_sem, Nat.reduceLT, Nat.reduceEqDiff, Nat.reduceAdd, Nat.reduceMul, Nat.reduceSub, Nat.reduceLeDiff, Int.reduceToNat, Int.reduceNeg, Int.reduceLT, Int.reduceLE, Int.reduceEq, reduceCtorEq, Int.natCast_zero, Int.natCast_one, Int.cast_ofNat_Int, Bool.not_not, false_eq_decide, true_eq_decide, hread0, hreadk, read_cons0, read_consk, astore_h0, astore_hk, hget0, hgetk, hset0, hsetk, hlen, hcat, Nat.add_assoc, Nat.add_zero, Nat.zero_add, List.length_append, and_true, true_and, AV.flat, hvp, one_solid hvp, one_cells hvp, hvu, one_solid hvu, one_cells hvu, hpu, one_solid hpu, one_cells hpu, hvg, one_solid hvg, one_cells hvg, hpg, one_solid hpg, one_cells hpg, hvc, one_solid hvc, one_cells hvc, q0, get_app q0, read_get q0, read_app q0, *, -hK, -hok, -hns, -h1000, -hB, -hpb, -uu, -k1, -hn1, -hvb, -bR, -hG4l, -hG3l, -hG2l, -hGl, -g0, -g2, -b9, -vsc, -op5, -ou5, -ug, -og, -opg, -kg, -bC, -rcg, -hG6l, -hnb, -hG5l] | refine WC.call (rcg _) ?_ | with_reducible refine IfB_dec (fun h => ?_) (fun h => ?_) | with_reducible refine Guard_dec (fun h => ?_) (fun h => ?_) | with_reducible refine Guard_ndec (fun h => ?_) (fun h => ?_) | with_reducible refine Guard_not (fun h => ?_) (fun h => ?_) | with_reducible refine IfB_ndec (fun h => ?_) (fun h => ?_) | with_reducible refine IfB_not (fun h => ?_) (fun h => ?_) | with_reducible refine Guard_split (fun h => ?_) (fun h => ?_) | with_reducible refine IfB_split (fun h => ?_) (fun h => ?_))
  generalize hG7 : (G6 ++ [(⟨[vg], 0, .full⟩ : Blk), (⟨[tkE.lst XC], 0, .full⟩ : Blk)] : Heap) = G7
  have k7 : Keep none G6 G7 := by rw [← hG7]; exact Keep.app _ _ _
  have bg : G7[G6.length]? = some (⟨[vg], 0, .full⟩ : Blk) := by rw [← hG7, hget0]; rfl
  have bh : G7[G6.length + 1]? = some (⟨[tkE.lst XC], 0, .full⟩ : Blk) := by rw [← hG7, hgetk]; rfl
  have hG7l : G7.length = G6.length + 2 := by rw [← hG7]; simp
  clear hG7 q0
  replace g0 := k7.get g0 (by simp)
  replace g2 := k7.get g2 (by simp)
  replace b9 := k7.get b9 (by simp)
  replace vsc := vsc.keep0 k7
  replace op5 := op5.keep0 k7
  replace ou5 := ou5.keep k7
  replace uu := uu.moved (G := G7) (fun b _ h => k7.at_ b (by omega) (by simp))
  have ug7 := ug.moved (G := G7) (fun b _ h => k7.at_ b h (by simp))
  have sgl := same_lent (og.keep k7) bC.1
  have spg := pushes_lent (opg.keep0 k7) bC.2
  unfold trAv at sgl
  repeat' (first | simp only [go_sem, Nat.reduceLT, Nat.reduceEqDiff, Nat.reduceAdd, Nat.reduceMul, Nat.reduceSub, Nat.reduceLeDiff, Int.reduceToNat, Int.reduceNeg, Int.reduceLT, Int.reduceLE, Int.reduceEq, reduceCtorEq, Int.natCast_zero, Int.natCast_one, Int.cast_ofNat_Int, Bool.not_not, false_eq_decide, true_eq_decide, hread0, hreadk, read_cons0, read_consk, astore_h0, astore_hk, hget0, hgetk, hset0, hsetk, hlen, hcat, Nat.add_assoc, Nat.add_zero, Nat.zero_add, List.length_append, and_true, true_and, AV.flat, hvp, one_solid hvp, one_cells hvp, hvu, one_solid hvu, one_cells hvu, hpu, one_solid hpu, one_cells hpu, hvg, one_solid hvg, one_cells hvg, hpg, one_solid hpg, one_cells hpg, hvc, one_solid hvc, one_cells hvc, bg, get_app bg, read_get bg, read_app bg, bh, get_app bh, read_get bh, read_app bh, *, -hK, -hok, -hns, -h1000, -hB, -hpb, -uu, -k1, -hn1, -hvb, -bR, -hG4l, -hG3l, -hG2l, -hGl, -g0, -g2, -b9, -vsc, -op5, -ou5, -ug, -og, -opg, -kg, -bC, -rcg, -hG6l, -hnb, -hG5l, -ug7, -sgl, -spg, -k7, -hG7l] | refine WC.call (sgl) ?_ | refine WC.call (spg) ?_ | with_reducible refine IfB_dec (fun h => ?_) (fun h => ?_) | with_reducible refine Guard_dec (fun h => ?_) (fun h => ?_) | with_reducible refine Guard_ndec (fun h => ?_) (fun h => ?_) | with_reducible refine Guard_not (fun h => ?_) (fun h => ?_) | with_reducible refine IfB_ndec (fun h => ?_) (fun h => ?_) | with_reducible refine IfB_not (fun h => ?_) (fun h => ?_) | with_reducible refine Guard_split (fun h => ?_) (fun h => ?_) | with_reducible refine IfB_split (fun h => ?_) (fun h => ?_))
  clear bh rcg sgl spg
  refine WX_loopS [4, 5, 11, 12, 25, 29, 35] (fun k fr' J2 => ∃ (q : Nat) (l2 : List Tk), k = (XC).length - q ∧ q ≤ (XC).length ∧ fr'.get 41 = .int .i64 q ∧ l2.length = (XC).length ∧ TrU G5.length G6.length J2 vg l2 ∧ (∀ t ∈ l2, t.ns.length ≤ 2000) ∧ Btw G5.length G6.length G7 J2) (XC).length ⟨0, XC, rfl, by omega, by simp only [go_sem, Nat.reduceLT, Nat.reduceEqDiff, Nat.reduceAdd, Nat.reduceMul, Nat.reduceSub, Nat.reduceLeDiff, Int.reduceToNat, Int.reduceNeg, Int.reduceLT, Int.reduceLE, Int.reduceEq, reduceCtorEq]; rfl, rfl, ug7, bC.1.2, Btw.refl _ _ _⟩ ?_
  rintro k fr' J2 A R hA hs hg hR ⟨q, l2, rfl, hq, fC, hl2, U, hbl2, hbt⟩
  have s4 := hg 4 (by decide)
  have s5 := hg 5 (by decide)
  have s11 := hg 11 (by decide)
  have s12 := hg 12 (by decide)
  have s25 := hg 25 (by decide)
  have s29 := hg 29 (by decide)
  have s35 := hg 35 (by decide)
  simp only [Fr.get_put, Fr.get_init, List.getD_cons_zero, List.getD_cons_succ, Nat.reduceEqDiff, if_true, if_false] at s4 s5 s11 s12 s25 s29 s35
  refine wx_sound hT _ ?_
  have bx2 := hbt.get bg (.inr (Nat.le_refl _))
  have hal := U.alen
  have hvo := U.one
  rw [hl2] at hal
  have hNl : (XC).length ≤ 1000 := bC.1.1
  by_cases hlt : q < (XC).length
  · have i2 : (q : Int) < (XC).length := by omega
    have e3 := inc_id hlt (by omega)
    have back : ∀ fr2 J3 l3, A fr2 → fr2.get 41 = .int .i64 ((q + 1 : Nat) : Int) → l3.length = (XC).length → TrU G5.length G6.length J3 vg l3 → (∀ t ∈ l3, t.ns.length ≤ 2000) → Btw G5.length G6.length G7 J3 → R fr2 J3 := fun fr2 J3 l3 ha j1 j2 j3 j4 j5 => hR fr2 J3 ha ((XC).length - (q + 1)) (by omega) ⟨q + 1, l3, rfl, by omega, j1, j2, j3, j4, j5⟩
    clear hR
    rcases U with ⟨h0, -⟩ | ⟨p, ps, hve, O, UU⟩
    · rw [h0] at hl2; simp at hl2; omega
    have hql : q < l2.length := by omega
    obtain ⟨x, hx⟩ : ∃ x, ps[q]? = some x := ⟨_, List.getElem?_eq_getElem (by rw [O.len]; exact hql)⟩
    have e2 := TkO.addr (T' := T) (p := p) se22 hql
    rw [← hve] at e2
    have hnl := hbl2 _ (List.getElem_mem hql)
    repeat' (first | simp only [go_sem, Nat.reduceLT, Nat.reduceEqDiff, Nat.reduceAdd, Nat.reduceMul, Nat.reduceSub, Nat.reduceLeDiff, Int.reduceToNat, Int.reduceNeg, Int.reduceLT, Int.reduceLE, Int.reduceEq, reduceCtorEq, Int.natCast_zero, Int.natCast_one, Int.cast_ofNat_Int, Bool.not_not, false_eq_decide, true_eq_decide, hread0, hreadk, read_cons0, read_consk, astore_h0, astore_hk, hget0, hgetk, hset0, hsetk, hlen, hcat, Nat.add_assoc, Nat.add_zero, Nat.zero_add, List.length_append, and_true, true_and, AV.flat, bx2, get_app bx2, read_get bx2, read_app bx2, hvo, one_solid hvo, one_cells hvo, *, -hK, -hok, -hns, -h1000, -hB, -hpb, -uu, -k1, -hn1, -hvb, -bR, -hG4l, -hG3l, -hG2l, -hGl, -g0, -g2, -b9, -vsc, -op5, -ou5, -og, -opg, -kg, -bC, -hG6l, -hnb, -hG5l, -ug7, -k7, -hG7l, -bg, -hNl, -hve, -O, -UU, -hx, -hnl, -hbl2, -hbt, -back, -hl2] | with_reducible refine IfB_dec (fun h => ?_) (fun h => ?_) | with_reducible refine Guard_dec (fun h => ?_) (fun h => ?_) | with_reducible refine Guard_ndec (fun h => ?_) (fun h => ?_) | with_reducible refine Guard_not (fun h => ?_) (fun h => ?_) | with_reducible refine IfB_ndec (fun h => ?_) (fun h => ?_) | with_reducible refine IfB_not (fun h => ?_) (fun h => ?_) | with_reducible refine Guard_split (fun h => ?_) (fun h => ?_) | with_reducible refine IfB_split (fun h => ?_) (fun h => ?_))
    have o4 := s4
    have o5 := s5
    have o11 := s11
    have o12 := s12
    have o25 := s25
    have o29 := s29
    have o35 := s35
    clear s4 s5 s11 s12 s25 s29 s35
    have hA0 := hA
    refine WX_loopS [4, 5, 11, 12, 25, 29, 35, 41] (fun k fr' J3 => ∃ (z : Nat) (l3 : List Tk) (t3 : Tk), k = l2[q].ns.length - z ∧ z ≤ l2[q].ns.length ∧ fr'.get 42 = .int .i64 z ∧ l3.length = l2.length ∧ l3[q]? = some t3 ∧ t3.ns.length = l2[q].ns.length ∧ TkO G5.length J3 p l2.length ps l3 ∧ (∀ t ∈ l3, t.ns.length ≤ 2000) ∧ Btw G5.length G6.length G7 J3 ∧ A fr') l2[q].ns.length ⟨0, l2, l2[q], rfl, by omega, by simp only [go_sem, Nat.reduceLT, Nat.reduceEqDiff, Nat.reduceAdd, Nat.reduceMul, Nat.reduceSub, Nat.reduceLeDiff, Int.reduceToNat, Int.reduceNeg, Int.reduceLT, Int.reduceLE, Int.reduceEq, reduceCtorEq]; rfl, rfl, List.getElem?_eq_getElem hql, rfl, O, hbl2, hbt, by (repeat (first | exact hs | refine hA _ _ _ (by decide) ?_))⟩ ?_
    clear hg hs hA bx2
    rintro k fr' J3 A2 R2 hA hs hg hR2 ⟨z, l3, t3, rfl, hz, fD, hl3, ht3, hnt, O3, hb3, hbt3, hAf⟩
    have s4 := hg 4 (by decide)
    have s5 := hg 5 (by decide)
    have s11 := hg 11 (by decide)
    have s12 := hg 12 (by decide)
    have s25 := hg 25 (by decide)
    have s29 := hg 29 (by decide)
    have s35 := hg 35 (by decide)
    have s41 := hg 41 (by decide)
    simp only [Fr.get_put, Fr.get_init, List.getD_cons_zero, List.getD_cons_succ, Nat.reduceEqDiff, if_true, if_false] at s4 s5 s11 s12 s25 s29 s35 s41
    rw [o4] at s4
    rw [o5] at s5
    rw [o11] at s11
    rw [o12] at s12
    rw [o25] at s25
    rw [o29] at s29
    rw [o35] at s35
    have fX := fC
    refine wx_sound hT _ ?_
    have bx3 := hbt3.get bg (.inr (Nat.le_refl _))
    obtain ⟨-, -, x3, x4⟩ := O3.el q x t3 hx ht3
    replace x3 := x3 hql
    have hxo := x3.one
    have rN := O3.readN hx
    have e6 := x3.alen (by decide) tk34
    rw [hnt] at e6
    by_cases hlz : z < l2[q].ns.length
    rotate_left
    · have i4 : ¬ (z : Int) < l2[q].ns.length := by omega
      repeat' (first | simp only [go_sem, Nat.reduceLT, Nat.reduceEqDiff, Nat.reduceAdd, Nat.reduceMul, Nat.reduceSub, Nat.reduceLeDiff, Int.reduceToNat, Int.reduceNeg, Int.reduceLT, Int.reduceLE, Int.reduceEq, reduceCtorEq, Int.natCast_zero, Int.natCast_one, Int.cast_ofNat_Int, Bool.not_not, false_eq_decide, true_eq_decide, hread0, hreadk, read_cons0, read_consk, astore_h0, astore_hk, hget0, hgetk, hset0, hsetk, hlen, hcat, Nat.add_assoc, Nat.add_zero, Nat.zero_add, List.length_append, and_true, true_and, AV.flat, bx3, get_app bx3, read_get bx3, read_app bx3, hvo, one_solid hvo, one_cells hvo, hxo, one_solid hxo, one_cells hxo, *, -hK, -hok, -hns, -h1000, -hB, -hpb, -uu, -k1, -hn1, -hvb, -bR, -hG4l, -hG3l, -hG2l, -hGl, -g0, -g2, -b9, -vsc, -op5, -ou5, -og, -opg, -kg, -bC, -hG6l, -hnb, -hG5l, -ug7, -k7, -hG7l, -bg, -hNl, -hve, -O, -UU, -hx, -hnl, -hbl2, -hbt, -back, -hl2, -hl3, -ht3, -hnt, -O3, -hb3, -hbt3, -x3, -x4, -hlz] | with_reducible refine IfB_dec (fun h => ?_) (fun h => ?_) | with_reducible refine Guard_dec (fun h => ?_) (fun h => ?_) | with_reducible refine Guard_ndec (fun h => ?_) (fun h => ?_) | with_reducible refine Guard_not (fun h => ?_) (fun h => ?_) | with_reducible refine IfB_ndec (fun h => ?_) (fun h => ?_) | with_reducible refine IfB_not (fun h => ?_) (fun h => ?_) | with_reducible refine Guard_split (fun h => ?_) (fun h => ?_) | with_reducible refine IfB_split (fun h => ?_) (fun h => ?_))
      exact back _ _ l3 (by repeat (first | exact hAf | refine hA0 _ _ _ (by decide) ?_)) (by simp only [go_sem, Nat.reduceLT, Nat.reduceEqDiff, Nat.reduceAdd, Nat.reduceMul, Nat.reduceSub, Nat.reduceLeDiff, Int.reduceToNat, Int.reduceNeg, Int.reduceLT, Int.reduceLE, Int.reduceEq, reduceCtorEq]) (by omega) (.inr ⟨p, ps, by rw [hl3]; exact hve, by rw [hl3]; exact O3, UU⟩) hb3 hbt3
    have i4 : (z : Int) < l2[q].ns.length := by omega
    have e7 := inc_id hlz (by omega)
    have hz3 : z < t3.ns.length := by omega
    obtain ⟨nb, no, J4, a1, a2, a3, o4, k4, a5⟩ := x3.setF (by decide) se34 hz3 (k := .i64) rfl (j := 0) (by decide) (x := ⟨77, t3.ns[z].key⟩) (c := .int .i64 77) rfl (te := 3) (by simp only [asize, td3, Option.map_some]) rfl rfl
    simp only [Nat.add_zero] at a3
    have hm1 := x3.ge a5
    have hm2 := UU.2 q x nb hx a5
    have O4 := O3.inner hx ht3 hql (by rw [a5]; exact k4) o4
    have hl4 : t3.ns.length ≤ 2000 := hb3 _ (List.mem_of_getElem? ht3)
    repeat' (first | simp only [go_sem, Nat.reduceLT, Nat.reduceEqDiff, Nat.reduceAdd, Nat.reduceMul, Nat.reduceSub, Nat.reduceLeDiff, Int.reduceToNat, Int.reduceNeg, Int.reduceLT, Int.reduceLE, Int.reduceEq, reduceCtorEq, Int.natCast_zero, Int.natCast_one, Int.cast_ofNat_Int, Bool.not_not, false_eq_decide, true_eq_decide, hread0, hreadk, read_cons0, read_consk, astore_h0, astore_hk, hget0, hgetk, hset0, hsetk, hlen, hcat, Nat.add_assoc, Nat.add_zero, Nat.zero_add, List.length_append, and_true, true_and, AV.flat, bx3, get_app bx3, read_get bx3, read_app bx3, hvo, one_solid hvo, one_cells hvo, hxo, one_solid hxo, one_cells hxo, *, -hK, -hok, -hns, -h1000, -hB, -hpb, -uu, -k1, -hn1, -hvb, -bR, -hG4l, -hG3l, -hG2l, -hGl, -g0, -g2, -b9, -vsc, -op5, -ou5, -og, -opg, -kg, -bC, -hG6l, -hnb, -hG5l, -ug7, -k7, -hG7l, -bg, -hNl, -hve, -O, -UU, -hx, -hnl, -hbl2, -hbt, -back, -hl2, -hl3, -ht3, -hnt, -O3, -hb3, -hbt3, -x3, -x4, -hz3, -a2, -o4, -k4, -a5, -hm1, -hm2, -O4, -hl4] | with_reducible refine IfB_dec (fun h => ?_) (fun h => ?_) | with_reducible refine Guard_dec (fun h => ?_) (fun h => ?_) | with_reducible refine Guard_ndec (fun h => ?_) (fun h => ?_) | with_reducible refine Guard_not (fun h => ?_) (fun h => ?_) | with_reducible refine IfB_ndec (fun h => ?_) (fun h => ?_) | with_reducible refine IfB_not (fun h => ?_) (fun h => ?_) | with_reducible refine Guard_split (fun h => ?_) (fun h => ?_) | with_reducible refine IfB_split (fun h => ?_) (fun h => ?_))
    exact hR2 _ _ (by (repeat (first | exact hs | refine hA _ _ _ (by decide) ?_))) (l2[q].ns.length - (z + 1)) (by omega) ⟨z + 1, _, ⟨t3.on, t3.ns.set z ⟨77, t3.ns[z].key⟩⟩, rfl, by omega, by simp only [go_sem, Nat.reduceLT, Nat.reduceEqDiff, Nat.reduceAdd, Nat.reduceMul, Nat.reduceSub, Nat.reduceLeDiff, Int.reduceToNat, Int.reduceNeg, Int.reduceLT, Int.reduceLE, Int.reduceEq, reduceCtorEq], by rw [List.length_set]; exact hl3, List.getElem?_set_self (by omega), by rw [List.length_set]; exact hnt, O4, fun t ht => by
      rcases List.mem_or_eq_of_mem_set ht with h | h
      · exact hb3 t h
      · rw [h]; show (List.set _ _ _).length ≤ _; rw [List.length_set]; exact hl4, hbt3.step k4 hm1 hm2, by repeat (first | exact hAf | refine hA0 _ _ _ (by decide) ?_)⟩
  have i2 : ¬ (q : Int) < (XC).length := by omega
  repeat' (first | simp only [go_sem, Nat.reduceLT, Nat.reduceEqDiff, Nat.reduceAdd, Nat.reduceMul, Nat.reduceSub, Nat.reduceLeDiff, Int.reduceToNat, Int.reduceNeg, Int.reduceLT, Int.reduceLE, Int.reduceEq, reduceCtorEq, Int.natCast_zero, Int.natCast_one, Int.cast_ofNat_Int, Bool.not_not, false_eq_decide, true_eq_decide, hread0, hreadk, read_cons0, read_consk, astore_h0, astore_hk, hget0, hgetk, hset0, hsetk, hlen, hcat, Nat.add_assoc, Nat.add_zero, Nat.zero_add, List.length_append, and_true, true_and, AV.flat, bx2, get_app bx2, read_get bx2, read_app bx2, hvo, one_solid hvo, one_cells hvo, *, -hK, -hok, -hns, -h1000, -hB, -hpb, -uu, -k1, -hn1, -hvb, -bR, -hG4l, -hG3l, -hG2l, -hGl, -g0, -g2, -b9, -vsc, -op5, -ou5, -og, -opg, -kg, -bC, -hG6l, -hnb, -hG5l, -ug7, -k7, -hG7l, -bg, -U, -hbl2, -hbt, -hl2, -hNl, -hlt] | with_reducible refine IfB_dec (fun h => ?_) (fun h => ?_) | with_reducible refine Guard_dec (fun h => ?_) (fun h => ?_) | with_reducible refine Guard_ndec (fun h => ?_) (fun h => ?_) | with_reducible refine Guard_not (fun h => ?_) (fun h => ?_) | with_reducible refine IfB_ndec (fun h => ?_) (fun h => ?_) | with_reducible refine IfB_not (fun h => ?_) (fun h => ?_) | with_reducible refine Guard_split (fun h => ?_) (fun h => ?_) | with_reducible refine IfB_split (fun h => ?_) (fun h => ?_))
  have hJ2l := hbt.len
  replace g0 := hbt.get g0 (.inl (by omega))
  replace g2 := hbt.get g2 (.inl (by omega))
  replace b9 := hbt.get b9 (.inl (by omega))
  replace vsc := Vs.same (G := J2) vsc (fun b h => hbt.at_ b (by have := hvb b h; omega) (.inl (by have := hvb b h; omega)))
  replace op5 := OwnE.same (G := J2) op5 (fun b h => hbt.at_ b (by have := hpb b h; omega) (.inl (by have := hpb b h; omega)))
  replace uu := uu.moved (G := J2) (fun b _ h => hbt.at_ b (by omega) (.inl (by omega)))
  clear U hbt bx2 hal hvo og opg kg k7 ug7 bg ou5 hlt i2 hR
  have o4 := s4
  have o5 := s5
  have o11 := s11
  have o12 := s12
  have o25 := s25
  have o29 := s29
  have o35 := s35
  clear s4 s5 s11 s12 s25 s29 s35
  refine WX_loopS [4, 5, 11, 12, 25, 29, 35] (fun k fr' Jp => ∃ (z : Nat) (xs : List Nm), k = XT.length - z ∧ z ≤ XT.length ∧ fr'.get 43 = .int .i64 z ∧ xs.length = XT.length ∧ OwnE nmE G.length Jp vp xs ∧ Btw G.length G2.length J2 Jp) XT.length ⟨0, XT, rfl, by omega, by simp only [go_sem, Nat.reduceLT, Nat.reduceEqDiff, Nat.reduceAdd, Nat.reduceMul, Nat.reduceSub, Nat.reduceLeDiff, Int.reduceToNat, Int.reduceNeg, Int.reduceLT, Int.reduceLE, Int.reduceEq, reduceCtorEq]; rfl, rfl, op5, Btw.refl _ _ _⟩ ?_
  clear hg hs hA
  rintro k fr' Jp A R hA hs hg hR ⟨z, xs, rfl, hz, f43, hxl, ox, hbt⟩
  have s4 := hg 4 (by decide)
  have s5 := hg 5 (by decide)
  have s11 := hg 11 (by decide)
  have s12 := hg 12 (by decide)
  have s25 := hg 25 (by decide)
  have s29 := hg 29 (by decide)
  have s35 := hg 35 (by decide)
  simp only [Fr.get_put, Fr.get_init, List.getD_cons_zero, List.getD_cons_succ, Nat.reduceEqDiff, if_true, if_false] at s4 s5 s11 s12 s25 s29 s35
  rw [o4] at s4
  rw [o5] at s5
  rw [o11] at s11
  rw [o12] at s12
  rw [o25] at s25
  rw [o29] at s29
  rw [o35] at s35
  refine wx_sound hT _ ?_
  have hal := ox.alen (by decide) tk34
  rw [hxl] at hal
  by_cases hlz : z < XT.length
  · have i4 : (z : Int) < XT.length := by omega
    have e7 := inc_id hlz (by omega)
    have hz3 : z < xs.length := by omega
    obtain ⟨nb, no, J4, a1, a2, a3, o4, k4, a5⟩ := ox.setF (by decide) se34 hz3 (k := .i64) rfl (j := 0) (by decide) (x := ⟨77, xs[z].key⟩) (c := .int .i64 77) rfl (te := 3) (by simp only [asize, td3, Option.map_some]) rfl rfl
    simp only [Nat.add_zero] at a3
    have hm2 := hpb nb a5
    repeat' (first | simp only [go_sem, Nat.reduceLT, Nat.reduceEqDiff, Nat.reduceAdd, Nat.reduceMul, Nat.reduceSub, Nat.reduceLeDiff, Int.reduceToNat, Int.reduceNeg, Int.reduceLT, Int.reduceLE, Int.reduceEq, reduceCtorEq, Int.natCast_zero, Int.natCast_one, Int.cast_ofNat_Int, Bool.not_not, false_eq_decide, true_eq_decide, hread0, hreadk, read_cons0, read_consk, astore_h0, astore_hk, hget0, hgetk, hset0, hsetk, hlen, hcat, Nat.add_assoc, Nat.add_zero, Nat.zero_add, List.length_append, and_true, true_and, AV.flat, hvp, one_solid hvp, one_cells hvp, *, -hK, -hok, -hns, -h1000, -hB, -hpb, -uu, -k1, -hn1, -hvb, -bR, -hG4l, -hG3l, -hG2l, -hGl, -g0, -g2, -b9, -vsc, -op5, -hG6l, -hnb, -hG5l, -hG7l, -bC, -op5, -hxl, -ox, -hbt, -hz3, -a2, -o4, -k4, -a5, -hm2, -hJ2l, -hl2, -hbl2, -hNl] | with_reducible refine IfB_dec (fun h => ?_) (fun h => ?_) | with_reducible refine Guard_dec (fun h => ?_) (fun h => ?_) | with_reducible refine Guard_ndec (fun h => ?_) (fun h => ?_) | with_reducible refine Guard_not (fun h => ?_) (fun h => ?_) | with_reducible refine IfB_ndec (fun h => ?_) (fun h => ?_) | with_reducible refine IfB_not (fun h => ?_) (fun h => ?_) | with_reducible refine Guard_split (fun h => ?_) (fun h => ?_) | with_reducible refine IfB_split (fun h => ?_) (fun h => ?_))
    exact hR _ _ (by (repeat (first | exact hs | refine hA _ _ _ (by decide) ?_))) (XT.length - (z + 1)) (by omega) ⟨z + 1, _, rfl, by omega, by simp only [go_sem, Nat.reduceLT, Nat.reduceEqDiff, Nat.reduceAdd, Nat.reduceMul, Nat.reduceSub, Nat.reduceLeDiff, Int.reduceToNat, Int.reduceNeg, Int.reduceLT, Int.reduceLE, Int.reduceEq, reduceCtorEq], by rw [List.length_set]; exact hxl, o4, hbt.step k4 hm2.1 hm2.2⟩
  have i4 : ¬ (z : Int) < XT.length := by omega
  repeat' (first | simp only [go_sem, Nat.reduceLT, Nat.reduceEqDiff, Nat.reduceAdd, Nat.reduceMul, Nat.reduceSub, Nat.reduceLeDiff, Int.reduceToNat, Int.reduceNeg, Int.reduceLT, Int.reduceLE, Int.reduceEq, reduceCtorEq, Int.natCast_zero, Int.natCast_one, Int.cast_ofNat_Int, Bool.not_not, false_eq_decide, true_eq_decide, hread0, hreadk, read_cons0, read_consk, astore_h0, astore_hk, hget0, hgetk, hset0, hsetk, hlen, hcat, Nat.add_assoc, Nat.add_zero, Nat.zero_add, List.length_append, and_true, true_and, AV.flat, hvp, one_solid hvp, one_cells hvp, *, -hK, -hok, -hns, -h1000, -hB, -hpb, -uu, -k1, -hn1, -hvb, -bR, -hG4l, -hG3l, -hG2l, -hGl, -g0, -g2, -b9, -vsc, -op5, -hG6l, -hnb, -hG5l, -hG7l, -bC, -op5, -hxl, -ox, -hbt, -hJ2l, -hl2, -hbl2, -hNl, -hlz] | with_reducible refine IfB_dec (fun h => ?_) (fun h => ?_) | with_reducible refine Guard_dec (fun h => ?_) (fun h => ?_) | with_reducible refine Guard_ndec (fun h => ?_) (fun h => ?_) | with_reducible refine Guard_not (fun h => ?_) (fun h => ?_) | with_reducible refine IfB_ndec (fun h => ?_) (fun h => ?_) | with_reducible refine IfB_not (fun h => ?_) (fun h => ?_) | with_reducible refine Guard_split (fun h => ?_) (fun h => ?_) | with_reducible refine IfB_split (fun h => ?_) (fun h => ?_))
  have hJpl := hbt.len
  replace g0 := hbt.get g0 (.inl (by omega))
  replace g2 := hbt.get g2 (.inl (by omega))
  replace b9 := hbt.get b9 (.inr (by omega))
  replace vsc := Vs.same (G := Jp) vsc (fun b h => hbt.at_ b (by have := hvb b h; omega) (.inl (by have := hvb b h; omega)))
  replace uu := uu.moved (G := Jp) (fun b h1 h2 => hbt.at_ b (by omega) (.inr (by omega)))
  clear ox hbt hal op5 hlz i4 hR o4 o5 o11 o12 o25 o29 o35 hl2 hbl2 hNl
  refine WX_loopS [4, 5, 11, 12, 25, 29, 35] (fun k fr' J2 => ∃ (q : Nat) (l2 : List Tk), k = (XR).length - q ∧ q ≤ (XR).length ∧ fr'.get 44 = .int .i64 q ∧ l2.length = (XR).length ∧ TrU G2.length G3.length J2 vu l2 ∧ (∀ t ∈ l2, t.ns.length ≤ 2000) ∧ Btw G2.length G3.length Jp J2) (XR).length ⟨0, XR, rfl, by omega, by simp only [go_sem, Nat.reduceLT, Nat.reduceEqDiff, Nat.reduceAdd, Nat.reduceMul, Nat.reduceSub, Nat.reduceLeDiff, Int.reduceToNat, Int.reduceNeg, Int.reduceLT, Int.reduceLE, Int.reduceEq, reduceCtorEq]; rfl, rfl, uu, bR.1.2, Btw.refl _ _ _⟩ ?_
  rintro k fr' J2 A R hA hs hg hR ⟨q, l2, rfl, hq, fC, hl2, U, hbl2, hbt⟩
  have s4 := hg 4 (by decide)
  have s5 := hg 5 (by decide)
  have s11 := hg 11 (by decide)
  have s12 := hg 12 (by decide)
  have s25 := hg 25 (by decide)
  have s29 := hg 29 (by decide)
  have s35 := hg 35 (by decide)
  simp only [Fr.get_put, Fr.get_init, List.getD_cons_zero, List.getD_cons_succ, Nat.reduceEqDiff, if_true, if_false] at s4 s5 s11 s12 s25 s29 s35
  refine wx_sound hT _ ?_
  have bx2 := hbt.get b9 (.inr (Nat.le_refl _))
  have hal := U.alen
  have hvo := U.one
  rw [hl2] at hal
  have hNl : (XR).length ≤ 1000 := bR.1.1
  by_cases hlt : q < (XR).length
  · have i2 : (q : Int) < (XR).length := by omega
    have e3 := inc_id hlt (by omega)
    have back : ∀ fr2 J3 l3, A fr2 → fr2.get 44 = .int .i64 ((q + 1 : Nat) : Int) → l3.length = (XR).length → TrU G2.length G3.length J3 vu l3 → (∀ t ∈ l3, t.ns.length ≤ 2000) → Btw G2.length G3.length Jp J3 → R fr2 J3 := fun fr2 J3 l3 ha j1 j2 j3 j4 j5 => hR fr2 J3 ha ((XR).length - (q + 1)) (by omega) ⟨q + 1, l3, rfl, by omega, j1, j2, j3, j4, j5⟩
    clear hR
    rcases U with ⟨h0, -⟩ | ⟨p, ps, hve, O, UU⟩
    · rw [h0] at hl2; simp at hl2; omega
    have hql : q < l2.length := by omega
    obtain ⟨x, hx⟩ : ∃ x, ps[q]? = some x := ⟨_, List.getElem?_eq_getElem (by rw [O.len]; exact hql)⟩
    have e2 := TkO.addr (T' := T) (p := p) se22 hql
    rw [← hve] at e2
    have hnl := hbl2 _ (List.getElem_mem hql)
    repeat' (first | simp only [go_sem, Nat.reduceLT, Nat.reduceEqDiff, Nat.reduceAdd, Nat.reduceMul, Nat.reduceSub, Nat.reduceLeDiff, Int.reduceToNat, Int.reduceNeg, Int.reduceLT, Int.reduceLE, Int.reduceEq, reduceCtorEq, Int.natCast_zero, Int.natCast_one, Int.cast_ofNat_Int, Bool.not_not, false_eq_decide, true_eq_decide, hread0, hreadk, read_cons0, read_consk, astore_h0, astore_hk, hget0, hgetk, hset0, hsetk, hlen, hcat, Nat.add_assoc, Nat.add_zero, Nat.zero_add, List.length_append, and_true, true_and, AV.flat, bx2, get_app bx2, read_get bx2, read_app bx2, hvo, one_solid hvo, one_cells hvo, *, -hK, -hok, -hns, -h1000, -hB, -hpb, -k1, -hn1, -hvb, -bR, -hG4l, -hG3l, -hG2l, -hGl, -g0, -g2, -vsc, -hG6l, -hnb, -hG5l, -hG7l, -bC, -hJ2l, -hJpl, -hxl, -uu, -b9, -hNl, -hve, -O, -UU, -hx, -hnl, -hbl2, -hbt, -back, -hl2] | with_reducible refine IfB_dec (fun h => ?_) (fun h => ?_) | with_reducible refine Guard_dec (fun h => ?_) (fun h => ?_) | with_reducible refine Guard_ndec (fun h => ?_) (fun h => ?_) | with_reducible refine Guard_not (fun h => ?_) (fun h => ?_) | with_reducible refine IfB_ndec (fun h => ?_) (fun h => ?_) | with_reducible refine IfB_not (fun h => ?_) (fun h => ?_) | with_reducible refine Guard_split (fun h => ?_) (fun h => ?_) | with_reducible refine IfB_split (fun h => ?_) (fun h => ?_))
    have o4 := s4
    have o5 := s5
    have o11 := s11
    have o12 := s12
    have o25 := s25
    have o29 := s29
    have o35 := s35
    clear s4 s5 s11 s12 s25 s29 s35
    have hA0 := hA
    refine WX_loopS [4, 5, 11, 12, 25, 29, 35, 44] (fun k fr' J3 => ∃ (z : Nat) (l3 : List Tk) (t3 : Tk), k = l2[q].ns.length - z ∧ z ≤ l2[q].ns.length ∧ fr'.get 45 = .int .i64 z ∧ l3.length = l2.length ∧ l3[q]? = some t3 ∧ t3.ns.length = l2[q].ns.length ∧ TkO G2.length J3 p l2.length ps l3 ∧ (∀ t ∈ l3, t.ns.length ≤ 2000) ∧ Btw G2.length G3.length Jp J3 ∧ A fr') l2[q].ns.length ⟨0, l2, l2[q], rfl, by omega, by simp only [go_sem, Nat.reduceLT, Nat.reduceEqDiff, Nat.reduceAdd, Nat.reduceMul, Nat.reduceSub, Nat.reduceLeDiff, Int.reduceToNat, Int.reduceNeg, Int.reduceLT, Int.reduceLE, Int.reduceEq, reduceCtorEq]; rfl, rfl, List.getElem?_eq_getElem hql, rfl, O, hbl2, hbt, by (repeat (first | exact hs | refine hA _ _ _ (by decide) ?_))⟩ ?_
    clear hg hs hA bx2
    rintro k fr' J3 A2 R2 hA hs hg hR2 ⟨z, l3, t3, rfl, hz, fD, hl3, ht3, hnt, O3, hb3, hbt3, hAf⟩
    have s4 := hg 4 (by decide)
    have s5 := hg 5 (by decide)
    have s11 := hg 11 (by decide)
    have s12 := hg 12 (by decide)
    have s25 := hg 25 (by decide)
    have s29 := hg 29 (by decide)
    have s35 := hg 35 (by decide)
    have s44 := hg 44 (by decide)
    simp only [Fr.get_put, Fr.get_init, List.getD_cons_zero, List.getD_cons_succ, Nat.reduceEqDiff, if_true, if_false] at s4 s5 s11 s12 s25 s29 s35 s44
    rw [o4] at s4
    rw [o5] at s5
    rw [o11] at s11
    rw [o12] at s12
    rw [o25] at s25
    rw [o29] at s29
    rw [o35] at s35
    have fX := fC
    refine wx_sound hT _ ?_
    have bx3 := hbt3.get b9 (.inr (Nat.le_refl _))
    obtain ⟨-, -, x3, x4⟩ := O3.el q x t3 hx ht3
    replace x3 := x3 hql
    have hxo := x3.one
    have rN := O3.readN hx
    have e6 := x3.alen (by decide) tk34
    rw [hnt] at e6
    by_cases hlz : z < l2[q].ns.length
    rotate_left
    · have i4 : ¬ (z : Int) < l2[q].ns.length := by omega
      repeat' (first | simp only [go_sem, Nat.reduceLT, Nat.reduceEqDiff, Nat.reduceAdd, Nat.reduceMul, Nat.reduceSub, Nat.reduceLeDiff, Int.reduceToNat, Int.reduceNeg, Int.reduceLT, Int.reduceLE, Int.reduceEq, reduceCtorEq, Int.natCast_zero, Int.natCast_one, Int.cast_ofNat_Int, Bool.not_not, false_eq_decide, true_eq_decide, hread0, hreadk, read_cons0, read_consk, astore_h0, astore_hk, hget0, hgetk, hset0, hsetk, hlen, hcat, Nat.add_assoc, Nat.add_zero, Nat.zero_add, List.length_append, and_true, true_and, AV.flat, bx3, get_app bx3, read_get bx3, read_app bx3, hvo, one_solid hvo, one_cells hvo, hxo, one_solid hxo, one_cells hxo, *, -hK, -hok, -hns, -h1000, -hB, -hpb, -k1, -hn1, -hvb, -bR, -hG4l, -hG3l, -hG2l, -hGl, -g0, -g2, -vsc, -hG6l, -hnb, -hG5l, -hG7l, -bC, -hJ2l, -hJpl, -hxl, -uu, -b9, -hNl, -hve, -O, -UU, -hx, -hnl, -hbl2, -hbt, -back, -hl2, -hl3, -ht3, -hnt, -O3, -hb3, -hbt3, -x3, -x4, -hlz] | with_reducible refine IfB_dec (fun h => ?_) (fun h => ?_) | with_reducible refine Guard_dec (fun h => ?_) (fun h => ?_) | with_reducible refine Guard_ndec (fun h => ?_) (fun h => ?_) | with_reducible refine Guard_not (fun h => ?_) (fun h => ?_) | with_reducible refine IfB_ndec (fun h => ?_) (fun h => ?_) | with_reducible refine IfB_not (fun h => ?_) (fun h => ?_) | with_reducible refine Guard_split (fun h => ?_) (fun h => ?_) | with_reducible refine IfB_split (fun h => ?_) (fun h => ?_))
      exact back _ _ l3 (by repeat (first | exact hAf | refine hA0 _ _ _ (by decide) ?_)) (by simp only [go_sem, Nat.reduceLT, Nat.reduceEqDiff, Nat.reduceAdd, Nat.reduceMul, Nat.reduceSub, Nat.reduceLeDiff, Int.reduceToNat, Int.reduceNeg, Int.reduceLT, Int.reduceLE, Int.reduceEq, reduceCtorEq]) (by omega) (.inr ⟨p, ps, by rw [hl3]; exact hve, by rw [hl3]; exact O3, UU⟩) hb3 hbt3
    have i4 : (z : Int) < l2[q].ns.length := by omega
    have e7 := inc_id hlz (by omega)
    have hz3 : z < t3.ns.length := by omega
    obtain ⟨nb, no, J4, a1, a2, a3, o4, k4, a5⟩ := x3.setF (by decide) se34 hz3 (k := .i64) rfl (j := 0) (by decide) (x := ⟨77, t3.ns[z].key⟩) (c := .int .i64 77) rfl (te := 3) (by simp only [asize, td3, Option.map_some]) rfl rfl
    simp only [Nat.add_zero] at a3
    have hm1 := x3.ge a5
    have hm2 := UU.2 q x nb hx a5
    have O4 := O3.inner hx ht3 hql (by rw [a5]; exact k4) o4
    have hl4 : t3.ns.length ≤ 2000 := hb3 _ (List.mem_of_getElem? ht3)
    repeat' (first | simp only [go_sem, Nat.reduceLT, Nat.reduceEqDiff, Nat.reduceAdd, Nat.reduceMul, Nat.reduceSub, Nat.reduceLeDiff, Int.reduceToNat, Int.reduceNeg, Int.reduceLT, Int.reduceLE, Int.reduceEq, reduceCtorEq, Int.natCast_zero, Int.natCast_one, Int.cast_ofNat_Int, Bool.not_not, false_eq_decide, true_eq_decide, hread0, hreadk, read_cons0, read_consk, astore_h0, astore_hk, hget0, hgetk, hset0, hsetk, hlen, hcat, Nat.add_assoc, Nat.add_zero, Nat.zero_add, List.length_append, and_true, true_and, AV.flat, bx3, get_app bx3, read_get bx3, read_app bx3, hvo, one_solid hvo, one_cells hvo, hxo, one_solid hxo, one_cells hxo, *, -hK, -hok, -hns, -h1000, -hB, -hpb, -k1, -hn1, -hvb, -bR, -hG4l, -hG3l, -hG2l, -hGl, -g0, -g2, -vsc, -hG6l, -hnb, -hG5l, -hG7l, -bC, -hJ2l, -hJpl, -hxl, -uu, -b9, -hNl, -hve, -O, -UU, -hx, -hnl, -hbl2, -hbt, -back, -hl2, -hl3, -ht3, -hnt, -O3, -hb3, -hbt3, -x3, -x4, -hz3, -a2, -o4, -k4, -a5, -hm1, -hm2, -O4, -hl4] | with_reducible refine IfB_dec (fun h => ?_) (fun h => ?_) | with_reducible refine Guard_dec (fun h => ?_) (fun h => ?_) | with_reducible refine Guard_ndec (fun h => ?_) (fun h => ?_) | with_reducible refine Guard_not (fun h => ?_) (fun h => ?_) | with_reducible refine IfB_ndec (fun h => ?_) (fun h => ?_) | with_reducible refine IfB_not (fun h => ?_) (fun h => ?_) | with_reducible refine Guard_split (fun h => ?_) (fun h => ?_) | with_reducible refine IfB_split (fun h => ?_) (fun h => ?_))
    exact hR2 _ _ (by (repeat (first | exact hs | refine hA _ _ _ (by decide) ?_))) (l2[q].ns.length - (z + 1)) (by omega) ⟨z + 1, _, ⟨t3.on, t3.ns.set z ⟨77, t3.ns[z].key⟩⟩, rfl, by omega, by simp only [go_sem, Nat.reduceLT, Nat.reduceEqDiff, Nat.reduceAdd, Nat.reduceMul, Nat.reduceSub, Nat.reduceLeDiff, Int.reduceToNat, Int.reduceNeg, Int.reduceLT, Int.reduceLE, Int.reduceEq, reduceCtorEq], by rw [List.length_set]; exact hl3, List.getElem?_set_self (by omega), by rw [List.length_set]; exact hnt, O4, fun t ht => by
      rcases List.mem_or_eq_of_mem_set ht with h | h
      · exact hb3 t h
      · rw [h]; show (List.set _ _ _).length ≤ _; rw [List.length_set]; exact hl4, hbt3.step k4 hm1 hm2, by repeat (first | exact hAf | refine hA0 _ _ _ (by decide) ?_)⟩
  have i2 : ¬ (q : Int) < (XR).length := by omega
  have hJ4l := hbt.len
  replace g0 := hbt.get g0 (.inl (by omega))
  replace g2 := hbt.get g2 (.inl (by omega))
  replace vsc := Vs.same (G := J2) vsc (fun b h => hbt.at_ b (by have := hvb b h; omega) (.inl (by have := hvb b h; omega)))
  have sB := fun J => same_bnd hB J
  unfold trAv at sB
  have sc := sameChanges_vs cs hcn _ vc vsc
  repeat' (first | simp only [go_sem, Nat.reduceLT, Nat.reduceEqDiff, Nat.reduceAdd, Nat.reduceMul, Nat.reduceSub, Nat.reduceLeDiff, Int.reduceToNat, Int.reduceNeg, Int.reduceLT, Int.reduceLE, Int.reduceEq, reduceCtorEq, Int.natCast_zero, Int.natCast_one, Int.cast_ofNat_Int, Bool.not_not, false_eq_decide, true_eq_decide, hread0, hreadk, read_cons0, read_consk, astore_h0, astore_hk, hget0, hgetk, hset0, hsetk, hlen, hcat, Nat.add_assoc, Nat.add_zero, Nat.zero_add, List.length_append, and_true, true_and, AV.flat, bx2, get_app bx2, read_get bx2, read_app bx2, g0, get_app g0, read_get g0, read_app g0, g2, get_app g2, read_get g2, read_app g2, hvo, one_solid hvo, one_cells hvo, hvc, one_solid hvc, one_cells hvc, *, -hK, -hok, -hns, -h1000, -hB, -hpb, -k1, -hn1, -hvb, -bR, -hG4l, -hG3l, -hG2l, -hGl, -vsc, -hG6l, -hnb, -hG5l, -hG7l, -bC, -hJ2l, -hJpl, -hxl, -uu, -U, -hbl2, -hbt, -hl2, -hNl, -hlt, -b9, -hJ4l, -sB, -sc] | refine WC.call (sB _) ?_ | refine WC.call (sc) ?_ | with_reducible refine IfB_dec (fun h => ?_) (fun h => ?_) | with_reducible refine Guard_dec (fun h => ?_) (fun h => ?_) | with_reducible refine Guard_ndec (fun h => ?_) (fun h => ?_) | with_reducible refine Guard_not (fun h => ?_) (fun h => ?_) | with_reducible refine IfB_ndec (fun h => ?_) (fun h => ?_) | with_reducible refine IfB_not (fun h => ?_) (fun h => ?_) | with_reducible refine Guard_split (fun h => ?_) (fun h => ?_) | with_reducible refine IfB_split (fun h => ?_) (fun h => ?_))
  exact hK _ _ rfl
end Go.Proofs.Ytccfhighlpfdmaa

