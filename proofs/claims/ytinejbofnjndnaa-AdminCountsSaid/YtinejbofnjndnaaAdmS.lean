import Derived.Test.YtinejbofnjndnaaAdmR
set_option linter.unusedSimpArgs false
set_option linter.unusedVariables false
set_option maxRecDepth 100000
set_option maxHeartbeats 8000000
namespace Go.Proofs.Ytinejbofnjndnaa
open Go Go.Proofs Go.Proofs.PI
theorem adminCounts_walk (avs : List AV) (h : InpPAll T 9 [24, 29, 32, 33, 3] avs) : WC Try.prog 6 avs [] fun v _ => v = .bool true := by
  obtain ⟨a0, _, rfl, h0, h⟩ := h.cons
  obtain ⟨a1, _, rfl, h1, h⟩ := h.cons
  obtain ⟨a2, _, rfl, h2, h⟩ := h.cons
  obtain ⟨a3, _, rfl, h3, h⟩ := h.cons
  obtain ⟨a4, _, rfl, h4, h⟩ := h.cons
  obtain rfl := h.nil
  obtain ⟨a, rfl, hal⟩ := inp_adm h0
  obtain ⟨c, rfl, hkn⟩ := inp_cmd h1
  obtain ⟨r, rfl⟩ := inp_res h2
  obtain ⟨l, rfl, ho, hn⟩ := inp_changes h3
  obtain ⟨t, rfl, -⟩ := InpPV.int tk3 h4
  clear h0 h1 h2 h3 h4 h
  generalize ([] : Heap) = H
  refine WC_of_K fun K hK => ?_
  have lg := fun J => long_spec c hkn J
  have hv := fun J => heavyC_spec l hn J
  unfold Cmd.av at lg
  unfold Adm.av Cmd.av Res.av
  refine WC_of_body hT Try.func6 rfl (by simp [Try.f6]) (by simp [Try.f6]) (wx_sound hT _ ?_)
  simp only [Try.f6]
  by_cases i1 : (a.ts.length : Int) > 40
  · skip
    repeat' (first | simp only [go_sem, Nat.reduceLT, Nat.reduceEqDiff, Nat.reduceAdd, Nat.reduceMul, Nat.reduceSub, Nat.reduceLeDiff, Int.reduceToNat, Int.reduceNeg, Int.reduceLT, Int.reduceLE, Int.reduceEq, reduceCtorEq, Int.natCast_zero, Int.natCast_one, Int.cast_ofNat_Int, Bool.not_not, false_eq_decide, true_eq_decide, hread0, hreadk, read_cons0, read_consk, astore_h0, astore_hk, hget0, hgetk, hset0, hsetk, hlen, hcat, Nat.add_assoc, Nat.add_zero, Nat.zero_add, List.length_append, and_true, true_and, AV.flat, *, -hK, -lg, -hv] | with_reducible refine IfB_dec (fun h => ?_) (fun h => ?_) | with_reducible refine Guard_dec (fun h => ?_) (fun h => ?_) | with_reducible refine Guard_ndec (fun h => ?_) (fun h => ?_) | with_reducible refine Guard_not (fun h => ?_) (fun h => ?_) | with_reducible refine IfB_ndec (fun h => ?_) (fun h => ?_) | with_reducible refine IfB_not (fun h => ?_) (fun h => ?_) | with_reducible refine Guard_split (fun h => ?_) (fun h => ?_) | with_reducible refine IfB_split (fun h => ?_) (fun h => ?_))
    exact hK _ _ rfl
  repeat' (first | simp only [go_sem, Nat.reduceLT, Nat.reduceEqDiff, Nat.reduceAdd, Nat.reduceMul, Nat.reduceSub, Nat.reduceLeDiff, Int.reduceToNat, Int.reduceNeg, Int.reduceLT, Int.reduceLE, Int.reduceEq, reduceCtorEq, Int.natCast_zero, Int.natCast_one, Int.cast_ofNat_Int, Bool.not_not, false_eq_decide, true_eq_decide, hread0, hreadk, read_cons0, read_consk, astore_h0, astore_hk, hget0, hgetk, hset0, hsetk, hlen, hcat, Nat.add_assoc, Nat.add_zero, Nat.zero_add, List.length_append, and_true, true_and, AV.flat, *, -hK, -lg, -hv] | with_reducible refine IfB_dec (fun h => ?_) (fun h => ?_) | with_reducible refine Guard_dec (fun h => ?_) (fun h => ?_) | with_reducible refine Guard_ndec (fun h => ?_) (fun h => ?_) | with_reducible refine Guard_not (fun h => ?_) (fun h => ?_) | with_reducible refine IfB_ndec (fun h => ?_) (fun h => ?_) | with_reducible refine IfB_not (fun h => ?_) (fun h => ?_) | with_reducible refine Guard_split (fun h => ?_) (fun h => ?_) | with_reducible refine IfB_split (fun h => ?_) (fun h => ?_))
  refine (lg _).mono ?_
  rintro r1 H1 ⟨⟨bl, rfl, hbl⟩, rfl⟩
  cases bl with
  | true =>
    repeat' (first | simp only [go_sem, Nat.reduceLT, Nat.reduceEqDiff, Nat.reduceAdd, Nat.reduceMul, Nat.reduceSub, Nat.reduceLeDiff, Int.reduceToNat, Int.reduceNeg, Int.reduceLT, Int.reduceLE, Int.reduceEq, reduceCtorEq, Int.natCast_zero, Int.natCast_one, Int.cast_ofNat_Int, Bool.not_not, false_eq_decide, true_eq_decide, hread0, hreadk, read_cons0, read_consk, astore_h0, astore_hk, hget0, hgetk, hset0, hsetk, hlen, hcat, Nat.add_assoc, Nat.add_zero, Nat.zero_add, List.length_append, and_true, true_and, AV.flat, *, -hK, -hv] | with_reducible refine IfB_dec (fun h => ?_) (fun h => ?_) | with_reducible refine Guard_dec (fun h => ?_) (fun h => ?_) | with_reducible refine Guard_ndec (fun h => ?_) (fun h => ?_) | with_reducible refine Guard_not (fun h => ?_) (fun h => ?_) | with_reducible refine IfB_ndec (fun h => ?_) (fun h => ?_) | with_reducible refine IfB_not (fun h => ?_) (fun h => ?_) | with_reducible refine Guard_split (fun h => ?_) (fun h => ?_) | with_reducible refine IfB_split (fun h => ?_) (fun h => ?_))
    exact hK _ _ rfl
  | false =>
  obtain ⟨hk40, -, -⟩ := hbl rfl
  repeat' (first | simp only [go_sem, Nat.reduceLT, Nat.reduceEqDiff, Nat.reduceAdd, Nat.reduceMul, Nat.reduceSub, Nat.reduceLeDiff, Int.reduceToNat, Int.reduceNeg, Int.reduceLT, Int.reduceLE, Int.reduceEq, reduceCtorEq, Int.natCast_zero, Int.natCast_one, Int.cast_ofNat_Int, Bool.not_not, false_eq_decide, true_eq_decide, hread0, hreadk, read_cons0, read_consk, astore_h0, astore_hk, hget0, hgetk, hset0, hsetk, hlen, hcat, Nat.add_assoc, Nat.add_zero, Nat.zero_add, List.length_append, and_true, true_and, AV.flat, *, -hK, -hv] | with_reducible refine IfB_dec (fun h => ?_) (fun h => ?_) | with_reducible refine Guard_dec (fun h => ?_) (fun h => ?_) | with_reducible refine Guard_ndec (fun h => ?_) (fun h => ?_) | with_reducible refine Guard_not (fun h => ?_) (fun h => ?_) | with_reducible refine IfB_ndec (fun h => ?_) (fun h => ?_) | with_reducible refine IfB_not (fun h => ?_) (fun h => ?_) | with_reducible refine Guard_split (fun h => ?_) (fun h => ?_) | with_reducible refine IfB_split (fun h => ?_) (fun h => ?_))
  refine (hv _).mono ?_
  rintro r2 H2 ⟨⟨bh, rfl, hbh⟩, rfl⟩
  cases bh with
  | true =>
    repeat' (first | simp only [go_sem, Nat.reduceLT, Nat.reduceEqDiff, Nat.reduceAdd, Nat.reduceMul, Nat.reduceSub, Nat.reduceLeDiff, Int.reduceToNat, Int.reduceNeg, Int.reduceLT, Int.reduceLE, Int.reduceEq, reduceCtorEq, Int.natCast_zero, Int.natCast_one, Int.cast_ofNat_Int, Bool.not_not, false_eq_decide, true_eq_decide, hread0, hreadk, read_cons0, read_consk, astore_h0, astore_hk, hget0, hgetk, hset0, hsetk, hlen, hcat, Nat.add_assoc, Nat.add_zero, Nat.zero_add, List.length_append, and_true, true_and, AV.flat, *, -hK] | with_reducible refine IfB_dec (fun h => ?_) (fun h => ?_) | with_reducible refine Guard_dec (fun h => ?_) (fun h => ?_) | with_reducible refine Guard_ndec (fun h => ?_) (fun h => ?_) | with_reducible refine Guard_not (fun h => ?_) (fun h => ?_) | with_reducible refine IfB_ndec (fun h => ?_) (fun h => ?_) | with_reducible refine IfB_not (fun h => ?_) (fun h => ?_) | with_reducible refine Guard_split (fun h => ?_) (fun h => ?_) | with_reducible refine IfB_split (fun h => ?_) (fun h => ?_))
    exact hK _ _ rfl
  | false =>
  clear hbh hbl lg hv
  by_cases i2 : (r.its.length : Int) > 1000
  · skip
    repeat' (first | simp only [go_sem, Nat.reduceLT, Nat.reduceEqDiff, Nat.reduceAdd, Nat.reduceMul, Nat.reduceSub, Nat.reduceLeDiff, Int.reduceToNat, Int.reduceNeg, Int.reduceLT, Int.reduceLE, Int.reduceEq, reduceCtorEq, Int.natCast_zero, Int.natCast_one, Int.cast_ofNat_Int, Bool.not_not, false_eq_decide, true_eq_decide, hread0, hreadk, read_cons0, read_consk, astore_h0, astore_hk, hget0, hgetk, hset0, hsetk, hlen, hcat, Nat.add_assoc, Nat.add_zero, Nat.zero_add, List.length_append, and_true, true_and, AV.flat, *, -hK] | with_reducible refine IfB_dec (fun h => ?_) (fun h => ?_) | with_reducible refine Guard_dec (fun h => ?_) (fun h => ?_) | with_reducible refine Guard_ndec (fun h => ?_) (fun h => ?_) | with_reducible refine Guard_not (fun h => ?_) (fun h => ?_) | with_reducible refine IfB_ndec (fun h => ?_) (fun h => ?_) | with_reducible refine IfB_not (fun h => ?_) (fun h => ?_) | with_reducible refine Guard_split (fun h => ?_) (fun h => ?_) | with_reducible refine IfB_split (fun h => ?_) (fun h => ?_))
    exact hK _ _ rfl
  have hts : a.ts.length ≤ 1000000 := by omega
  repeat' (first | simp only [go_sem, Nat.reduceLT, Nat.reduceEqDiff, Nat.reduceAdd, Nat.reduceMul, Nat.reduceSub, Nat.reduceLeDiff, Int.reduceToNat, Int.reduceNeg, Int.reduceLT, Int.reduceLE, Int.reduceEq, reduceCtorEq, Int.natCast_zero, Int.natCast_one, Int.cast_ofNat_Int, Bool.not_not, false_eq_decide, true_eq_decide, hread0, hreadk, read_cons0, read_consk, astore_h0, astore_hk, hget0, hgetk, hset0, hsetk, hlen, hcat, Nat.add_assoc, Nat.add_zero, Nat.zero_add, List.length_append, and_true, true_and, AV.flat, *, -hK] | with_reducible refine IfB_dec (fun h => ?_) (fun h => ?_) | with_reducible refine Guard_dec (fun h => ?_) (fun h => ?_) | with_reducible refine Guard_ndec (fun h => ?_) (fun h => ?_) | with_reducible refine Guard_not (fun h => ?_) (fun h => ?_) | with_reducible refine IfB_ndec (fun h => ?_) (fun h => ?_) | with_reducible refine IfB_not (fun h => ?_) (fun h => ?_) | with_reducible refine Guard_split (fun h => ?_) (fun h => ?_) | with_reducible refine IfB_split (fun h => ?_) (fun h => ?_))
  refine append_enc (E := statE) (xs := []) (ys := a.ts) (OwnE.nils _ (H.length + 4) _) se22 az47 td47 (src_enc tk22) (by decide) (by show (0 + _) * _ ≤ _; simp only [statE]; omega) (by simp) ?_
  intro v H1 o k0 hn1
  rw [List.nil_append] at o
  have k1 : Keep none _ H1 := k0
  clear k0 hn1
  have hv := o.one
  have b0 := k1.get (b := H.length) (B := ⟨[statE.lst a.ts, .bool a.dr], 0, .full⟩) (by rw [hget0]; rfl) (by simp)
  have b1 := k1.get (b := H.length + 1) (B := ⟨c.cs, 0, .full⟩) (by rw [hgetk]; rfl) (by simp)
  have b2 := k1.get (b := H.length + 2) (B := ⟨r.cs, 0, .full⟩) (by rw [hgetk]; rfl) (by simp)
  have b3 := k1.get (b := H.length + 3) (B := ⟨[.nils, .bool a.dr], 0, .full⟩) (by rw [hgetk]; rfl) (by simp)
  have l1 := k1.len
  simp only [List.length_append, List.length_cons, List.length_nil] at l1
  have hge : ∀ b, v.blk = some b → H.length + 4 ≤ b := fun b hb => o.ge hb
  have hlt : ∀ b, v.blk = some b → b < H1.length := fun b hb => o.lt hb
  obtain ⟨J, hJ⟩ : ∃ J : Heap, J = List.set H1 (H.length + 3) ⟨[v, .bool a.dr], 0, .full⟩ := ⟨_, rfl⟩
  have oJ : OwnE statE (H.length + 4) J v a.ts := by rw [hJ]; exact o.keep (Keep.of_set rfl) (fun b hb e => by cases hb; have := hge _ e; omega)
  have lJ : J.length = H1.length := by rw [hJ]; simp
  have j0 : J[H.length]? = some ⟨[statE.lst a.ts, .bool a.dr], 0, .full⟩ := by rw [hJ, List.getElem?_set_ne (by omega)]; exact b0
  have j1 : J[H.length + 1]? = some ⟨c.cs, 0, .full⟩ := by rw [hJ, List.getElem?_set_ne (by omega)]; exact b1
  have j2 : J[H.length + 2]? = some ⟨r.cs, 0, .full⟩ := by rw [hJ, List.getElem?_set_ne (by omega)]; exact b2
  have j3 : J[H.length + 3]? = some ⟨[v, .bool a.dr], 0, .full⟩ := by rw [hJ, List.getElem?_set_self (by omega)]
  have hJ2 := hJ.symm
  have lJ2 := lJ.symm
  clear lJ
  clear b0 b1 b2 k1 o hJ
  have nw := fun L => new_spec t L
  have rn := fun L => refNew_spec t L
  have nlen := newL_len t
  generalize newL t = nn at *
  obtain ⟨nA, ne⟩ := nn
  obtain ⟨nts, ndr⟩ := nA
  unfold Adm.av at nw rn
  simp only at nw rn nlen
  unfold Cmd.cs at j1
  unfold Res.cs at j2
  repeat' (first | simp only [go_sem, Nat.reduceLT, Nat.reduceEqDiff, Nat.reduceAdd, Nat.reduceMul, Nat.reduceSub, Nat.reduceLeDiff, Int.reduceToNat, Int.reduceNeg, Int.reduceLT, Int.reduceLE, Int.reduceEq, reduceCtorEq, Int.natCast_zero, Int.natCast_one, Int.cast_ofNat_Int, Bool.not_not, false_eq_decide, true_eq_decide, hread0, hreadk, read_cons0, read_consk, astore_h0, astore_hk, hget0, hgetk, hset0, hsetk, hlen, hcat, Nat.add_assoc, Nat.add_zero, Nat.zero_add, List.length_append, and_true, true_and, AV.flat, b3, get_app b3, read_get b3, read_app b3, astore_get b3, astore_app b3, get_set b3, get_set_app b3, read_set b3, read_set_app b3, astore_set b3, astore_set_app b3, List.set_set, hget0s, hgetks, hread0s, hreadks, List.length_set, hv, one_solid hv, one_cells hv, j0, get_app j0, read_get j0, read_app j0, j1, get_app j1, read_get j1, read_app j1, j2, get_app j2, read_get j2, read_app j2, j3, get_app j3, read_get j3, read_app j3, *, -hK, -hge, -hlt, -oJ, -nw, -rn, -hts, -nlen] | refine WC.call (nw _) ?_ | refine WC.call (rn _) ?_ | with_reducible refine IfB_dec (fun h => ?_) (fun h => ?_) | with_reducible refine Guard_dec (fun h => ?_) (fun h => ?_) | with_reducible refine Guard_ndec (fun h => ?_) (fun h => ?_) | with_reducible refine Guard_not (fun h => ?_) (fun h => ?_) | with_reducible refine IfB_ndec (fun h => ?_) (fun h => ?_) | with_reducible refine IfB_not (fun h => ?_) (fun h => ?_) | with_reducible refine Guard_split (fun h => ?_) (fun h => ?_) | with_reducible refine IfB_split (fun h => ?_) (fun h => ?_))
  have o1 : OwnE statE (H.length + 4) _ v a.ts := oJ.keep0 (Keep.app none J [⟨[statE.lst nts, .bool ndr], 0, .full⟩, ⟨[statE.lst nts, .bool ndr], 0, .full⟩])
  have cl := count_lent o1 c r l hts (by omega) (by omega) hn ho
  have cr := fun L => refCount_spec a c r l hts (by omega) (by omega) hn ho L
  have clen := countL_len a c r l
  generalize countL a c r l = cc at *
  obtain ⟨⟨xts, xdr⟩, xe⟩ := cc
  unfold Cmd.av Res.av at cl cr
  unfold Adm.av at cr
  simp only at cl cr clen
  refine cl.mono ?_
  clear cl
  rintro w0 H2 ⟨vx, rfl, ox, k2⟩
  have j0 := k2.get (get_app j0 _) (by simp)
  have j1 := k2.get (get_app j1 _) (by simp)
  have j2 := k2.get (get_app j2 _) (by simp)
  have j3 := k2.get (get_app j3 _) (by simp)
  have jn := k2.get (b := J.length) (B := ⟨[statE.lst nts, .bool ndr], 0, .full⟩) (by rw [hget0]; rfl) (by simp)
  have jm := k2.get (b := J.length + 1) (B := ⟨[statE.lst nts, .bool ndr], 0, .full⟩) (by rw [hgetk]; rfl) (by simp)
  have o2 := o1.keep0 k2
  have hvx := ox.one
  have l2 := k2.len
  simp only [List.length_append, List.length_cons, List.length_nil] at l2
  have xge : ∀ b, vx.blk = some b → J.length + 2 ≤ b := fun b hb => by have := ox.ge hb; simpa using this
  have xlt : ∀ b, vx.blk = some b → b < H2.length := fun b hb => ox.lt hb
  clear k2 o1 hJ2 b3
  repeat' (first | simp only [go_sem, Nat.reduceLT, Nat.reduceEqDiff, Nat.reduceAdd, Nat.reduceMul, Nat.reduceSub, Nat.reduceLeDiff, Int.reduceToNat, Int.reduceNeg, Int.reduceLT, Int.reduceLE, Int.reduceEq, reduceCtorEq, Int.natCast_zero, Int.natCast_one, Int.cast_ofNat_Int, Bool.not_not, false_eq_decide, true_eq_decide, hread0, hreadk, read_cons0, read_consk, astore_h0, astore_hk, hget0, hgetk, hset0, hsetk, hlen, hcat, Nat.add_assoc, Nat.add_zero, Nat.zero_add, List.length_append, and_true, true_and, AV.flat, hvx, one_solid hvx, one_cells hvx, hv, one_solid hv, one_cells hv, j0, get_app j0, read_get j0, read_app j0, j1, get_app j1, read_get j1, read_app j1, j2, get_app j2, read_get j2, read_app j2, j3, get_app j3, read_get j3, read_app j3, *, -hK, -hge, -hlt, -oJ, -nw, -rn, -hts, -nlen, -o2, -ox, -xge, -xlt, -clen] | refine WC.call (cr _) ?_ | with_reducible refine IfB_dec (fun h => ?_) (fun h => ?_) | with_reducible refine Guard_dec (fun h => ?_) (fun h => ?_) | with_reducible refine Guard_ndec (fun h => ?_) (fun h => ?_) | with_reducible refine Guard_not (fun h => ?_) (fun h => ?_) | with_reducible refine IfB_ndec (fun h => ?_) (fun h => ?_) | with_reducible refine IfB_not (fun h => ?_) (fun h => ?_) | with_reducible refine Guard_split (fun h => ?_) (fun h => ?_) | with_reducible refine IfB_split (fun h => ?_) (fun h => ?_))
  have o3 : OwnE statE (H.length + 4) _ v a.ts := o2.keep0 (Keep.app none H2 [⟨[vx, .bool xdr], 0, .full⟩, ⟨[statE.lst xts, .bool xdr], 0, .full⟩])
  have dl := drain_lent o3 hts
  have dq := fun L => refDrain_spec a hts L
  have dlen := drainL_len a
  generalize drainL a = dd at *
  obtain ⟨⟨dts, ddr⟩, de⟩ := dd
  unfold Adm.av at dq
  simp only at dl dq dlen
  refine dl.mono ?_
  clear dl
  rintro w1 H3 ⟨vd, rfl, od, k3⟩
  have j0 := k3.get (get_app j0 _) (by simp)
  have j1 := k3.get (get_app j1 _) (by simp)
  have j2 := k3.get (get_app j2 _) (by simp)
  have j3 := k3.get (get_app j3 _) (by simp)
  have jn := k3.get (get_app jn _) (by simp)
  have jm := k3.get (get_app jm _) (by simp)
  have jx := k3.get (b := H2.length) (B := ⟨[vx, .bool xdr], 0, .full⟩) (by rw [hget0]; rfl) (by simp)
  have jy := k3.get (b := H2.length + 1) (B := ⟨[statE.lst xts, .bool xdr], 0, .full⟩) (by rw [hgetk]; rfl) (by simp)
  have o4 := o3.keep0 k3
  have ox3 := (ox.keep0 (Keep.app none H2 _)).keep0 k3
  have hvd := od.one
  have l3 := k3.len
  simp only [List.length_append, List.length_cons, List.length_nil] at l3
  have dge : ∀ b, vd.blk = some b → H2.length + 2 ≤ b := fun b hb => by have := od.ge hb; simpa using this
  have dlt : ∀ b, vd.blk = some b → b < H3.length := fun b hb => od.lt hb
  clear k3 o3 o2 ox
  have lx : (J ++ [(⟨[statE.lst nts, .bool ndr], 0, .full⟩ : Blk), ⟨[statE.lst nts, .bool ndr], 0, .full⟩]).length = J.length + 2 := by simp
  have ld : (H2 ++ [(⟨[vx, .bool xdr], 0, .full⟩ : Blk), ⟨[statE.lst xts, .bool xdr], 0, .full⟩]).length = H2.length + 2 := by simp
  rw [lx] at ox3
  rw [ld] at od
  clear lx ld
  have st := fun L => statA_lent (o4.keep0 (Keep.app none H3 L)) t hts
  have rs := fun L => refStat_spec a t hts L
  have sl := fun L => sumA_lent (o4.keep0 (Keep.app none H3 L)) hts
  have rl := fun L => refSum_spec a hts L
  have tk := fun L => takes_lent (o4.keep0 (Keep.app none H3 L)) hts
  have ck := fun L => checkA_lent (o4.keep0 (Keep.app none H3 L)) hts
  have rk := fun L => refCheckA_spec a hal L
  have sx := fun L => same_lentA (a := ⟨xts, xdr⟩) (ox3.keep0 (Keep.app none H3 L)) (by show xts.length ≤ _; omega)
  have sd := fun L => same_lentA (a := ⟨dts, ddr⟩) (od.keep0 (Keep.app none H3 L)) (by show dts.length ≤ _; omega)
  have sn := fun L => sameA_refl ⟨nts, ndr⟩ (by show nts.length ≤ _; omega) L
  have stt := sum_takes a
  generalize statL a t = sp at *
  generalize sumL a = su at *
  generalize takesL a = ta at *
  generalize admE a = ae at *
  obtain ⟨⟨s1, s2, s3, s4, s5, s6⟩, se⟩ := sp
  obtain ⟨⟨u1, u2, u3, u4, u5, u6⟩, ue⟩ := su
  obtain ⟨tb, te⟩ := ta
  unfold Adm.av at rs rl rk sx sd sn
  unfold Stat.av at st rs sl rl
  simp only at st rs sl rl tk ck rk sx sd sn stt
  rcases stt with ⟨rfl, hte, rfl⟩ | ⟨rfl, hte, rfl⟩
  all_goals
    simp only [Prod.mk.injEq] at hte
    obtain ⟨rfl, rfl⟩ := hte
    repeat' (first | simp only [go_sem, Nat.reduceLT, Nat.reduceEqDiff, Nat.reduceAdd, Nat.reduceMul, Nat.reduceSub, Nat.reduceLeDiff, Int.reduceToNat, Int.reduceNeg, Int.reduceLT, Int.reduceLE, Int.reduceEq, reduceCtorEq, Int.natCast_zero, Int.natCast_one, Int.cast_ofNat_Int, Bool.not_not, false_eq_decide, true_eq_decide, hread0, hreadk, read_cons0, read_consk, astore_h0, astore_hk, hget0, hgetk, hset0, hsetk, hlen, hcat, Nat.add_assoc, Nat.add_zero, Nat.zero_add, List.length_append, and_true, true_and, AV.flat, hvx, one_solid hvx, one_cells hvx, hv, one_solid hv, one_cells hv, hvd, one_solid hvd, one_cells hvd, j0, get_app j0, read_get j0, read_app j0, j3, get_app j3, read_get j3, read_app j3, jn, get_app jn, read_get jn, read_app jn, jm, get_app jm, read_get jm, read_app jm, jx, get_app jx, read_get jx, read_app jx, jy, get_app jy, read_get jy, read_app jy, *, -hK, -hge, -hlt, -oJ, -nw, -rn, -hts, -nlen, -o4, -ox3, -od, -xge, -xlt, -dge, -dlt, -clen, -dlen, -cr, -dq, -st, -rs, -sl, -rl, -tk, -ck, -rk, -sx, -sd, -sn, -j1, -j2] | refine WC.call (dq _) ?_ | refine WC.call (st _) ?_ | refine WC.call (rs _) ?_ | refine WC.call (sl _) ?_ | refine WC.call (rl _) ?_ | refine WC.call (tk _) ?_ | refine WC.call (sn _) ?_ | refine WC.call (sx _) ?_ | refine WC.call (sd _) ?_ | with_reducible refine IfB_dec (fun h => ?_) (fun h => ?_) | with_reducible refine Guard_dec (fun h => ?_) (fun h => ?_) | with_reducible refine Guard_ndec (fun h => ?_) (fun h => ?_) | with_reducible refine Guard_not (fun h => ?_) (fun h => ?_) | with_reducible refine IfB_ndec (fun h => ?_) (fun h => ?_) | with_reducible refine IfB_not (fun h => ?_) (fun h => ?_) | with_reducible refine Guard_split (fun h => ?_) (fun h => ?_) | with_reducible refine IfB_split (fun h => ?_) (fun h => ?_))
    refine WX_rows hT hmix [(0, none), (1, none), (2, none), (3, none), (4, none), (5, none), (6, none), (7, none), (8, none), (9, none), (10, none), (11, none), (12, none), (13, none), (14, none), (15, none), (16, none), (17, none), (18, none), (19, none), (20, none), (21, none), (22, none), (23, none), (24, none), (25, none), (26, none), (27, none), (28, none), (29, none), (30, none), (31, none), (32, none), (33, none), (34, none), (35, none), (37, none), (36, some [false, true, true, true, true, true, true, true, true, true, true, true, true, true, true, true, true, true, true, true, true, true, true, true, true, true, true, true, true, true, true, true, true, true, true, true, true]), (38, some [true, true, true, true, true, true, true, true, true, true, true, true, true, true, true, true, true, true, true, true, true, true, true, true, true, true, true, true, true, true, true, true, true, true, true, true, true, true]), (39, none), (40, none), (41, none)] (by kernel_rfl) ?_
    repeat' (first | simp only [go_sem, Nat.reduceLT, Nat.reduceEqDiff, Nat.reduceAdd, Nat.reduceMul, Nat.reduceSub, Nat.reduceLeDiff, Int.reduceToNat, Int.reduceNeg, Int.reduceLT, Int.reduceLE, Int.reduceEq, reduceCtorEq, Int.natCast_zero, Int.natCast_one, Int.cast_ofNat_Int, Bool.not_not, false_eq_decide, true_eq_decide, hread0, hreadk, read_cons0, read_consk, astore_h0, astore_hk, hget0, hgetk, hset0, hsetk, hlen, hcat, Nat.add_assoc, Nat.add_zero, Nat.zero_add, List.length_append, and_true, true_and, AV.flat, hvx, one_solid hvx, one_cells hvx, hv, one_solid hv, one_cells hv, hvd, one_solid hvd, one_cells hvd, j0, get_app j0, read_get j0, read_app j0, j3, get_app j3, read_get j3, read_app j3, jn, get_app jn, read_get jn, read_app jn, jm, get_app jm, read_get jm, read_app jm, jx, get_app jx, read_get jx, read_app jx, jy, get_app jy, read_get jy, read_app jy, *, -hK, -hge, -hlt, -oJ, -nw, -rn, -hts, -nlen, -o4, -ox3, -od, -xge, -xlt, -dge, -dlt, -clen, -dlen, -cr, -dq, -st, -rs, -sl, -rl, -tk, -ck, -rk, -sx, -sd, -sn, -j1, -j2] | refine WC.call (ck _) ?_ | refine WC.call (rk _) ?_ | with_reducible refine IfB_dec (fun h => ?_) (fun h => ?_) | with_reducible refine Guard_dec (fun h => ?_) (fun h => ?_) | with_reducible refine Guard_ndec (fun h => ?_) (fun h => ?_) | with_reducible refine Guard_not (fun h => ?_) (fun h => ?_) | with_reducible refine IfB_ndec (fun h => ?_) (fun h => ?_) | with_reducible refine IfB_not (fun h => ?_) (fun h => ?_) | with_reducible refine Guard_split (fun h => ?_) (fun h => ?_) | with_reducible refine IfB_split (fun h => ?_) (fun h => ?_))
    clear dq st rs sl rl tk ck rk sx sd sn nw rn cr
    have SX : ∀ L : List Blk, SpI H.length (H.length + 3) (J.length + 2) H2.length (H2.length + 2) H3.length [statE.lst a.ts, .bool a.dr] [v, .bool a.dr] [vx, .bool xdr] [vd, .bool ddr] v vx vd a.ts xts.length dts.length (H3 ++ ((⟨[vd, .bool ddr], 0, .full⟩ : Blk) :: L)) := fun L => ⟨Own.mono (o4.keep0 (Keep.app none H3 _)) (Nat.zero_le _), ⟨xts, rfl, ox3.keep0 (Keep.app none H3 _)⟩, ⟨dts, rfl, od.keep0 (Keep.app none H3 _)⟩, get_app j0 _, get_app j3 _, get_app jx _, by rw [hget0]; rfl⟩
    refine WX_loopS [5, 11, 16, 20, 34, 35] (fun q fr' H' => ∃ j : Nat, q = xts.length - j ∧ j ≤ xts.length ∧ fr'.get 36 = .int .i64 j ∧ SpI H.length (H.length + 3) (J.length + 2) H2.length (H2.length + 2) H3.length [statE.lst a.ts, .bool a.dr] [v, .bool a.dr] [vx, .bool xdr] [vd, .bool ddr] v vx vd a.ts xts.length dts.length H') xts.length ⟨0, rfl, by omega, by simp only [go_sem, Nat.reduceLT, Nat.reduceEqDiff, Nat.reduceAdd, Nat.reduceMul, Nat.reduceSub, Nat.reduceLeDiff, Int.reduceToNat, Int.reduceNeg, Int.reduceLT, Int.reduceLE, Int.reduceEq, reduceCtorEq]; rfl, SX _⟩ ?_
    clear SX j0 j1 j2 j3 jn jm jx jy o4 ox3 od oJ
    rintro q fr' H4 A R hA hs hg hR ⟨j, rfl, hj, f36, sp⟩
    have s5 := hg 5 (by decide)
    have s11 := hg 11 (by decide)
    have s16 := hg 16 (by decide)
    have s20 := hg 20 (by decide)
    have s34 := hg 34 (by decide)
    have s35 := hg 35 (by decide)
    simp only [Fr.get_put, Fr.get_init, List.getD_cons_zero, List.getD_cons_succ, Nat.reduceEqDiff, if_true, if_false] at s5 s11 s16 s20 s34 s35
    refine wx_sound hT _ ?_
    have gX := sp.gX
    have axl : alen T 22 vx = some (.int .i64 xts.length) := by
      obtain ⟨xs, hl, ox⟩ := sp.ox
      rw [← hl]; exact ox.alen (by decide) tk22
    have bv : ∀ b, v.blk = some b → b < J.length + 2 := fun b hb => by have := hlt b hb; omega
    by_cases hlt1 : j < xts.length
    · have i3 : (j : Int) < xts.length := by omega
      have e3 := inc_id hlt1 (show xts.length ≤ 140737488355328 by omega)
      obtain ⟨b, o, G2, e1, e2, sp2⟩ := sp.setX bv xlt (by omega) (by omega) (by omega) (by omega) hlt1
      repeat' (first | simp only [go_sem, Nat.reduceLT, Nat.reduceEqDiff, Nat.reduceAdd, Nat.reduceMul, Nat.reduceSub, Nat.reduceLeDiff, Int.reduceToNat, Int.reduceNeg, Int.reduceLT, Int.reduceLE, Int.reduceEq, reduceCtorEq, Int.natCast_zero, Int.natCast_one, Int.cast_ofNat_Int, Bool.not_not, false_eq_decide, true_eq_decide, hread0, hreadk, read_cons0, read_consk, astore_h0, astore_hk, hget0, hgetk, hset0, hsetk, hlen, hcat, Nat.add_assoc, Nat.add_zero, Nat.zero_add, List.length_append, and_true, true_and, AV.flat, gX, get_app gX, read_get gX, read_app gX, hvx, one_solid hvx, one_cells hvx, *, -hK, -sp, -sp2, -hge, -hlt, -xge, -xlt, -dge, -dlt, -bv, -hts, -nlen, -clen, -dlen] | with_reducible refine IfB_dec (fun h => ?_) (fun h => ?_) | with_reducible refine Guard_dec (fun h => ?_) (fun h => ?_) | with_reducible refine Guard_ndec (fun h => ?_) (fun h => ?_) | with_reducible refine Guard_not (fun h => ?_) (fun h => ?_) | with_reducible refine IfB_ndec (fun h => ?_) (fun h => ?_) | with_reducible refine IfB_not (fun h => ?_) (fun h => ?_) | with_reducible refine Guard_split (fun h => ?_) (fun h => ?_) | with_reducible refine IfB_split (fun h => ?_) (fun h => ?_))
      exact hR _ _ (by (repeat (first | exact hs | refine hA _ _ _ (by decide) ?_))) (xts.length - (j + 1)) (by omega) ⟨j + 1, rfl, by omega, by simp only [go_sem, Nat.reduceLT, Nat.reduceEqDiff, Nat.reduceAdd, Nat.reduceMul, Nat.reduceSub, Nat.reduceLeDiff, Int.reduceToNat, Int.reduceNeg, Int.reduceLT, Int.reduceLE, Int.reduceEq, reduceCtorEq], sp2⟩
    have i3 : ¬ (j : Int) < xts.length := by omega
    clear hR
    repeat' (first | simp only [go_sem, Nat.reduceLT, Nat.reduceEqDiff, Nat.reduceAdd, Nat.reduceMul, Nat.reduceSub, Nat.reduceLeDiff, Int.reduceToNat, Int.reduceNeg, Int.reduceLT, Int.reduceLE, Int.reduceEq, reduceCtorEq, Int.natCast_zero, Int.natCast_one, Int.cast_ofNat_Int, Bool.not_not, false_eq_decide, true_eq_decide, hread0, hreadk, read_cons0, read_consk, astore_h0, astore_hk, hget0, hgetk, hset0, hsetk, hlen, hcat, Nat.add_assoc, Nat.add_zero, Nat.zero_add, List.length_append, and_true, true_and, AV.flat, gX, get_app gX, read_get gX, read_app gX, hvx, one_solid hvx, one_cells hvx, *, -hK, -sp, -hge, -hlt, -xge, -xlt, -dge, -dlt, -bv, -hts, -nlen, -clen, -dlen] | with_reducible refine IfB_dec (fun h => ?_) (fun h => ?_) | with_reducible refine Guard_dec (fun h => ?_) (fun h => ?_) | with_reducible refine Guard_ndec (fun h => ?_) (fun h => ?_) | with_reducible refine Guard_not (fun h => ?_) (fun h => ?_) | with_reducible refine IfB_ndec (fun h => ?_) (fun h => ?_) | with_reducible refine IfB_not (fun h => ?_) (fun h => ?_) | with_reducible refine Guard_split (fun h => ?_) (fun h => ?_) | with_reducible refine IfB_split (fun h => ?_) (fun h => ?_))
    have o5 := s5
    have o11 := s11
    have o16 := s16
    have o20 := s20
    have o34 := s34
    have o35 := s35
    refine WX_loopS [5, 11, 16, 20, 34, 35] (fun q fr2 H' => ∃ j : Nat, q = dts.length - j ∧ j ≤ dts.length ∧ fr2.get 37 = .int .i64 j ∧ SpI H.length (H.length + 3) (J.length + 2) H2.length (H2.length + 2) H3.length [statE.lst a.ts, .bool a.dr] [v, .bool a.dr] [vx, .bool xdr] [vd, .bool ddr] v vx vd a.ts xts.length dts.length H') dts.length ⟨0, rfl, by omega, by simp only [go_sem, Nat.reduceLT, Nat.reduceEqDiff, Nat.reduceAdd, Nat.reduceMul, Nat.reduceSub, Nat.reduceLeDiff, Int.reduceToNat, Int.reduceNeg, Int.reduceLT, Int.reduceLE, Int.reduceEq, reduceCtorEq]; rfl, sp⟩ ?_
    clear hg hs hA s5 s11 s16 s20 s34 s35 sp gX f36 i3 hlt1
    rintro q fr2 H5 A2 R2 hA hs hg hR2 ⟨i, rfl, hi, f37, sp⟩
    have s5 := hg 5 (by decide)
    have s11 := hg 11 (by decide)
    have s16 := hg 16 (by decide)
    have s20 := hg 20 (by decide)
    have s34 := hg 34 (by decide)
    have s35 := hg 35 (by decide)
    simp only [Fr.get_put, Fr.get_init, List.getD_cons_zero, List.getD_cons_succ, Nat.reduceEqDiff, if_true, if_false] at s5 s11 s16 s20 s34 s35
    rw [o5] at s5
    rw [o11] at s11
    rw [o16] at s16
    rw [o20] at s20
    rw [o34] at s34
    rw [o35] at s35
    clear o5 o11 o16 o20 o34 o35
    refine wx_sound hT _ ?_
    have gD := sp.gD
    have adl : alen T 22 vd = some (.int .i64 dts.length) := by
      obtain ⟨xs, hl, ox⟩ := sp.od
      rw [← hl]; exact ox.alen (by decide) tk22
    by_cases hlt2 : i < dts.length
    · have i3 : (i : Int) < dts.length := by omega
      have e3 := inc_id hlt2 (show dts.length ≤ 140737488355328 by omega)
      obtain ⟨b, o, G2, e1, e2, sp2⟩ := sp.setD bv xlt dlt (by omega) (by omega) (by omega) (by omega) hlt2
      repeat' (first | simp only [go_sem, Nat.reduceLT, Nat.reduceEqDiff, Nat.reduceAdd, Nat.reduceMul, Nat.reduceSub, Nat.reduceLeDiff, Int.reduceToNat, Int.reduceNeg, Int.reduceLT, Int.reduceLE, Int.reduceEq, reduceCtorEq, Int.natCast_zero, Int.natCast_one, Int.cast_ofNat_Int, Bool.not_not, false_eq_decide, true_eq_decide, hread0, hreadk, read_cons0, read_consk, astore_h0, astore_hk, hget0, hgetk, hset0, hsetk, hlen, hcat, Nat.add_assoc, Nat.add_zero, Nat.zero_add, List.length_append, and_true, true_and, AV.flat, gD, get_app gD, read_get gD, read_app gD, hvd, one_solid hvd, one_cells hvd, *, -hK, -sp, -sp2, -hge, -hlt, -xge, -xlt, -dge, -dlt, -bv, -hts, -nlen, -clen, -dlen] | with_reducible refine IfB_dec (fun h => ?_) (fun h => ?_) | with_reducible refine Guard_dec (fun h => ?_) (fun h => ?_) | with_reducible refine Guard_ndec (fun h => ?_) (fun h => ?_) | with_reducible refine Guard_not (fun h => ?_) (fun h => ?_) | with_reducible refine IfB_ndec (fun h => ?_) (fun h => ?_) | with_reducible refine IfB_not (fun h => ?_) (fun h => ?_) | with_reducible refine Guard_split (fun h => ?_) (fun h => ?_) | with_reducible refine IfB_split (fun h => ?_) (fun h => ?_))
      exact hR2 _ _ (by (repeat (first | exact hs | refine hA _ _ _ (by decide) ?_))) (dts.length - (i + 1)) (by omega) ⟨i + 1, rfl, by omega, by simp only [go_sem, Nat.reduceLT, Nat.reduceEqDiff, Nat.reduceAdd, Nat.reduceMul, Nat.reduceSub, Nat.reduceLeDiff, Int.reduceToNat, Int.reduceNeg, Int.reduceLT, Int.reduceLE, Int.reduceEq, reduceCtorEq], sp2⟩
    have i3 : ¬ (i : Int) < dts.length := by omega
    clear hR2
    have gA := sp.gA
    have gO := sp.gO
    have sf := same_lentA sp.ov hts
    unfold Adm.av at sf
    repeat' (first | simp only [go_sem, Nat.reduceLT, Nat.reduceEqDiff, Nat.reduceAdd, Nat.reduceMul, Nat.reduceSub, Nat.reduceLeDiff, Int.reduceToNat, Int.reduceNeg, Int.reduceLT, Int.reduceLE, Int.reduceEq, reduceCtorEq, Int.natCast_zero, Int.natCast_one, Int.cast_ofNat_Int, Bool.not_not, false_eq_decide, true_eq_decide, hread0, hreadk, read_cons0, read_consk, astore_h0, astore_hk, hget0, hgetk, hset0, hsetk, hlen, hcat, Nat.add_assoc, Nat.add_zero, Nat.zero_add, List.length_append, and_true, true_and, AV.flat, gD, get_app gD, read_get gD, read_app gD, gA, get_app gA, read_get gA, read_app gA, gO, get_app gO, read_get gO, read_app gO, hvd, one_solid hvd, one_cells hvd, hv, one_solid hv, one_cells hv, *, -hK, -sp, -hge, -hlt, -xge, -xlt, -dge, -dlt, -bv, -hts, -nlen, -clen, -dlen, -sf] | refine WC.call (sf) ?_ | with_reducible refine IfB_dec (fun h => ?_) (fun h => ?_) | with_reducible refine Guard_dec (fun h => ?_) (fun h => ?_) | with_reducible refine Guard_ndec (fun h => ?_) (fun h => ?_) | with_reducible refine Guard_not (fun h => ?_) (fun h => ?_) | with_reducible refine IfB_ndec (fun h => ?_) (fun h => ?_) | with_reducible refine IfB_not (fun h => ?_) (fun h => ?_) | with_reducible refine Guard_split (fun h => ?_) (fun h => ?_) | with_reducible refine IfB_split (fun h => ?_) (fun h => ?_))
    exact hK _ _ rfl
end Go.Proofs.Ytinejbofnjndnaa
