import Derived.Test.YtakmlfbejbelaaaCodeM3
import Derived.Test.YtakmlfbejbelaaaPiYb
set_option linter.unusedSimpArgs false
set_option linter.unusedVariables false
set_option maxRecDepth 100000
set_option maxHeartbeats 4000000
namespace Go.Proofs.Ytakmlfbejbelaaa
open Go Go.Proofs Go.Proofs.PI
/-! ### the document: an item's bytes -/
def itemL (a b : List UInt8) (f d u : Int) : List UInt8 := textL a ++ (textL b ++ (small f.toNat ++ (small d.toNat ++ small u.toNat)))
theorem itemBytes_spec (a b : List UInt8) (f d u : Int) (ha : a.length ≤ 32) (hb : b.length ≤ 512) (hf : 0 ≤ f ∧ f < 4294967296) (hd : 0 ≤ d ∧ d ≤ 1099511627776) (hu : 0 ≤ u ∧ u < 18446744073709551616) (H : Heap) :
    WC Try.prog 66 [.agg [.str a, .str b, .int .u32 f, .int .i64 d, .int .u64 u]] H fun r H' => r = Enc.u8.lst (itemL a b f d u) ∧ H' = H := by
  refine WC_froze (Q := fun r => r = _) (WC.mono (Q := fun r H' => Ob H.length H' r (itemL a b f d u) ∧ Keep none H H') ?_ fun r H' ⟨h1, h2⟩ => ⟨_, Thaw.ob h1, h2, rfl⟩)
  refine WC_of_K fun K hK => ?_
  have ta := textL_len (s := a) (by omega)
  have tb := textL_len (s := b) (by omega)
  have sf := small_len10 (n := f.toNat) (by omega)
  have sd := small_len10 (n := d.toNat) (by omega)
  have sb := fun J => refTextP b (by omega) J
  have wf : IntKind.u64.wrap f = f := u64w_id hf.1 (by omega)
  have s1 := fun J => refSmallP f hf.1 (by omega) J
  have s2 := fun J => refSmallP u hu.1 hu.2 J
  refine WC_of_body hT Try.func66 rfl (by simp [Try.f66]) (by simp [Try.f66]) (wx_sound hT _ ?_)
  simp only [Try.f66]
  repeat' (first | simp only [go_sem, Nat.reduceLT, Nat.reduceEqDiff, Nat.reduceAdd, Nat.reduceMul, Nat.reduceSub, Nat.reduceLeDiff, Int.reduceToNat, Int.reduceNeg, Int.reduceLT, Int.reduceLE, Int.reduceEq, reduceCtorEq, Int.natCast_zero, Int.natCast_one, Int.cast_ofNat_Int, Bool.not_not, false_eq_decide, true_eq_decide, hread0, hreadk, read_cons0, read_consk, astore_h0, astore_hk, hget0, hgetk, hset0, hsetk, hlen, hcat, Nat.add_assoc, Nat.add_zero, Nat.zero_add, List.length_append, and_true, true_and, AV.flat, *, -hK, -ta, -tb, -sf, -sd, -sb, -s1, -s2] | with_reducible refine IfB_dec (fun h => ?_) (fun h => ?_) | with_reducible refine Guard_dec (fun h => ?_) (fun h => ?_) | with_reducible refine Guard_ndec (fun h => ?_) (fun h => ?_) | with_reducible refine Guard_not (fun h => ?_) (fun h => ?_) | with_reducible refine IfB_ndec (fun h => ?_) (fun h => ?_) | with_reducible refine IfB_not (fun h => ?_) (fun h => ?_) | with_reducible refine Guard_split (fun h => ?_) (fun h => ?_) | with_reducible refine IfB_split (fun h => ?_) (fun h => ?_))
  refine (refText_spec a (by omega) _).mono ?_
  rintro r1 H1 ⟨o1, k1⟩
  have hb1 := k1.get (b := H.length) (B := ⟨[.str a, .str b, .int .u32 f, .int .i64 d, .int .u64 u], 0, .full⟩) (by rw [hget0]; rfl) (by simp)
  simp only [List.length_append, List.length_cons, List.length_nil] at o1
  have hl1 := k1.len
  simp only [List.length_append, List.length_cons, List.length_nil] at hl1
  repeat' (first | simp only [go_sem, Nat.reduceLT, Nat.reduceEqDiff, Nat.reduceAdd, Nat.reduceMul, Nat.reduceSub, Nat.reduceLeDiff, Int.reduceToNat, Int.reduceNeg, Int.reduceLT, Int.reduceLE, Int.reduceEq, reduceCtorEq, Int.natCast_zero, Int.natCast_one, Int.cast_ofNat_Int, Bool.not_not, false_eq_decide, true_eq_decide, hread0, hreadk, read_cons0, read_consk, astore_h0, astore_hk, hget0, hgetk, hset0, hsetk, hlen, hcat, Nat.add_assoc, Nat.add_zero, Nat.zero_add, List.length_append, and_true, true_and, AV.flat, hb1, get_app hb1, read_get hb1, read_app hb1, *, -hK, -ta, -tb, -sf, -sd, -sb, -s1, -s2, -k1, -o1] | refine WC.call (sb _) ?_ | with_reducible refine IfB_dec (fun h => ?_) (fun h => ?_) | with_reducible refine Guard_dec (fun h => ?_) (fun h => ?_) | with_reducible refine Guard_ndec (fun h => ?_) (fun h => ?_) | with_reducible refine Guard_not (fun h => ?_) (fun h => ?_) | with_reducible refine IfB_ndec (fun h => ?_) (fun h => ?_) | with_reducible refine IfB_not (fun h => ?_) (fun h => ?_) | with_reducible refine Guard_split (fun h => ?_) (fun h => ?_) | with_reducible refine IfB_split (fun h => ?_) (fun h => ?_))
  refine append_gr (m := H.length + 1) o1 se30 az5 td5 rfl (u8_src tk30) (by omega) (by omega) ?_
  intro r2 H2 g2
  have hb2 := g2.keep.get hb1 (o1.ne (by omega))
  have hl2 := g2.keep.len
  repeat' (first | simp only [go_sem, Nat.reduceLT, Nat.reduceEqDiff, Nat.reduceAdd, Nat.reduceMul, Nat.reduceSub, Nat.reduceLeDiff, Int.reduceToNat, Int.reduceNeg, Int.reduceLT, Int.reduceLE, Int.reduceEq, reduceCtorEq, Int.natCast_zero, Int.natCast_one, Int.cast_ofNat_Int, Bool.not_not, false_eq_decide, true_eq_decide, hread0, hreadk, read_cons0, read_consk, astore_h0, astore_hk, hget0, hgetk, hset0, hsetk, hlen, hcat, Nat.add_assoc, Nat.add_zero, Nat.zero_add, List.length_append, and_true, true_and, AV.flat, hb2, get_app hb2, read_get hb2, read_app hb2, *, -hK, -ta, -tb, -sf, -sd, -sb, -s1, -s2, -k1, -o1] | refine WC.call (s1 _) ?_ | with_reducible refine IfB_dec (fun h => ?_) (fun h => ?_) | with_reducible refine Guard_dec (fun h => ?_) (fun h => ?_) | with_reducible refine Guard_ndec (fun h => ?_) (fun h => ?_) | with_reducible refine Guard_not (fun h => ?_) (fun h => ?_) | with_reducible refine IfB_ndec (fun h => ?_) (fun h => ?_) | with_reducible refine IfB_not (fun h => ?_) (fun h => ?_) | with_reducible refine Guard_split (fun h => ?_) (fun h => ?_) | with_reducible refine IfB_split (fun h => ?_) (fun h => ?_))
  refine append_gr (m := H.length + 1) g2.own se30 az5 td5 rfl (u8_src tk30) (by simp only [List.length_append]; omega) (by omega) ?_
  intro r3 H3 g3
  have hb3 := g3.keep.get hb2 (g2.own.ne (by omega))
  have hl3 := g3.keep.len
  repeat' (first | simp only [go_sem, Nat.reduceLT, Nat.reduceEqDiff, Nat.reduceAdd, Nat.reduceMul, Nat.reduceSub, Nat.reduceLeDiff, Int.reduceToNat, Int.reduceNeg, Int.reduceLT, Int.reduceLE, Int.reduceEq, reduceCtorEq, Int.natCast_zero, Int.natCast_one, Int.cast_ofNat_Int, Bool.not_not, false_eq_decide, true_eq_decide, hread0, hreadk, read_cons0, read_consk, astore_h0, astore_hk, hget0, hgetk, hset0, hsetk, hlen, hcat, Nat.add_assoc, Nat.add_zero, Nat.zero_add, List.length_append, and_true, true_and, AV.flat, hb3, get_app hb3, read_get hb3, read_app hb3, *, -hK, -ta, -tb, -sf, -sd, -sb, -s1, -s2, -k1, -o1] | with_reducible refine IfB_dec (fun h => ?_) (fun h => ?_) | with_reducible refine Guard_dec (fun h => ?_) (fun h => ?_) | with_reducible refine Guard_ndec (fun h => ?_) (fun h => ?_) | with_reducible refine Guard_not (fun h => ?_) (fun h => ?_) | with_reducible refine IfB_ndec (fun h => ?_) (fun h => ?_) | with_reducible refine IfB_not (fun h => ?_) (fun h => ?_) | with_reducible refine Guard_split (fun h => ?_) (fun h => ?_) | with_reducible refine IfB_split (fun h => ?_) (fun h => ?_))
  refine (refNums_spec _ [d] (H3 ++ [(⟨[.int .i64 d], 1, .full⟩ : Blk)]) (get_vs (by rw [hget0]; rfl) rfl rfl) (by simp)).mono ?_
  rintro r4 H4 ⟨o4, k4⟩
  have n4 : numsL [d] = small d.toNat := num1 hd.1 (by omega)
  rw [n4] at o4
  have k34 := (Keep.app none H3 [(⟨[.int .i64 d], 1, .full⟩ : Blk)]).trans k4
  have hb4 := k34.get hb3 (by simp)
  have hl4 := k34.len
  repeat' (first | simp only [go_sem, Nat.reduceLT, Nat.reduceEqDiff, Nat.reduceAdd, Nat.reduceMul, Nat.reduceSub, Nat.reduceLeDiff, Int.reduceToNat, Int.reduceNeg, Int.reduceLT, Int.reduceLE, Int.reduceEq, reduceCtorEq, Int.natCast_zero, Int.natCast_one, Int.cast_ofNat_Int, Bool.not_not, false_eq_decide, true_eq_decide, hread0, hreadk, read_cons0, read_consk, astore_h0, astore_hk, hget0, hgetk, hset0, hsetk, hlen, hcat, Nat.add_assoc, Nat.add_zero, Nat.zero_add, List.length_append, and_true, true_and, AV.flat, hb4, get_app hb4, read_get hb4, read_app hb4, *, -hK, -ta, -tb, -sf, -sd, -sb, -s1, -s2, -k1, -o1, -o4, -n4, -k34] | with_reducible refine IfB_dec (fun h => ?_) (fun h => ?_) | with_reducible refine Guard_dec (fun h => ?_) (fun h => ?_) | with_reducible refine Guard_ndec (fun h => ?_) (fun h => ?_) | with_reducible refine Guard_not (fun h => ?_) (fun h => ?_) | with_reducible refine IfB_ndec (fun h => ?_) (fun h => ?_) | with_reducible refine IfB_not (fun h => ?_) (fun h => ?_) | with_reducible refine Guard_split (fun h => ?_) (fun h => ?_) | with_reducible refine IfB_split (fun h => ?_) (fun h => ?_))
  refine append_gr (m := H.length + 1) (g3.own.keep0 k34) se30 az5 td5 rfl (o4.bs.src tk30) (by simp only [List.length_append]; omega) (by omega) ?_
  intro r5 H5 g5
  have hb5 := g5.keep.get hb4 ((g3.own.keep0 k34).ne (by omega))
  have hl5 := g5.keep.len
  repeat' (first | simp only [go_sem, Nat.reduceLT, Nat.reduceEqDiff, Nat.reduceAdd, Nat.reduceMul, Nat.reduceSub, Nat.reduceLeDiff, Int.reduceToNat, Int.reduceNeg, Int.reduceLT, Int.reduceLE, Int.reduceEq, reduceCtorEq, Int.natCast_zero, Int.natCast_one, Int.cast_ofNat_Int, Bool.not_not, false_eq_decide, true_eq_decide, hread0, hreadk, read_cons0, read_consk, astore_h0, astore_hk, hget0, hgetk, hset0, hsetk, hlen, hcat, Nat.add_assoc, Nat.add_zero, Nat.zero_add, List.length_append, and_true, true_and, AV.flat, hb5, get_app hb5, read_get hb5, read_app hb5, *, -hK, -ta, -tb, -sf, -sd, -sb, -s1, -s2, -k1, -o1, -o4, -n4, -k34] | refine WC.call (s2 _) ?_ | with_reducible refine IfB_dec (fun h => ?_) (fun h => ?_) | with_reducible refine Guard_dec (fun h => ?_) (fun h => ?_) | with_reducible refine Guard_ndec (fun h => ?_) (fun h => ?_) | with_reducible refine Guard_not (fun h => ?_) (fun h => ?_) | with_reducible refine IfB_ndec (fun h => ?_) (fun h => ?_) | with_reducible refine IfB_not (fun h => ?_) (fun h => ?_) | with_reducible refine Guard_split (fun h => ?_) (fun h => ?_) | with_reducible refine IfB_split (fun h => ?_) (fun h => ?_))
  refine append_gr (m := H.length + 1) g5.own se30 az5 td5 rfl (u8_src tk30) (by simp only [List.length_append]; have := small_len10 (n := u.toNat) (by omega); omega) (by omega) ?_
  intro r6 H6 g6
  have gA := (Grow.post (g2.trans g3) k34).trans (g5.trans g6)
  have gk := gA.keep0 (G := H) ((Keep.app none H _).trans k1) (fun b hb => by have := o1.ge hb; omega)
  repeat' (first | simp only [go_sem, Nat.reduceLT, Nat.reduceEqDiff, Nat.reduceAdd, Nat.reduceMul, Nat.reduceSub, Nat.reduceLeDiff, Int.reduceToNat, Int.reduceNeg, Int.reduceLT, Int.reduceLE, Int.reduceEq, reduceCtorEq, Int.natCast_zero, Int.natCast_one, Int.cast_ofNat_Int, Bool.not_not, false_eq_decide, true_eq_decide, hread0, hreadk, read_cons0, read_consk, astore_h0, astore_hk, hget0, hgetk, hset0, hsetk, hlen, hcat, Nat.add_assoc, Nat.add_zero, Nat.zero_add, List.length_append, and_true, true_and, AV.flat, *, -hK, -ta, -tb, -sf, -sd, -sb, -s1, -s2, -k1, -o1, -o4, -n4, -k34] | with_reducible refine IfB_dec (fun h => ?_) (fun h => ?_) | with_reducible refine Guard_dec (fun h => ?_) (fun h => ?_) | with_reducible refine Guard_ndec (fun h => ?_) (fun h => ?_) | with_reducible refine Guard_not (fun h => ?_) (fun h => ?_) | with_reducible refine IfB_ndec (fun h => ?_) (fun h => ?_) | with_reducible refine IfB_not (fun h => ?_) (fun h => ?_) | with_reducible refine Guard_split (fun h => ?_) (fun h => ?_) | with_reducible refine IfB_split (fun h => ?_) (fun h => ?_))
  refine hK _ _ ⟨?_, gk⟩
  have o6 := gA.own.mono (m' := H.length) (by omega)
  rw [show itemL a b f d u = textL a ++ textL b ++ small f.toNat ++ small d.toNat ++ small u.toNat by simp [itemL]]
  exact o6
open Go Go.Proofs Go.Proofs.PI
/-! ### the document: a change's bytes -/
theorem one_spec (c : Chg) (ho : c.Ok) (hm : c.mayB = true) (H : Heap) : WC Try.prog 59 [c.av] H fun r H' => r = Enc.u8.lst c.putL ∧ H' = H := by
  refine WC_froze (Q := fun r => r = _) (WC.mono (Q := fun r H' => Ob H.length H' r c.putL ∧ Keep none H H') ?_ fun r H' ⟨h1, h2⟩ => ⟨_, Thaw.ob h1, h2, rfl⟩)
  refine WC_of_K fun K hK => ?_
  obtain ⟨h1, h2, h3, h4⟩ := may_facts ho hm
  have hkind : [AV.int .u8 c.kind] = byc [UInt8.ofNat c.kind.toNat] := by
    have := ho.kind; simp [byc]; omega
  have hwhy : [AV.int .u8 c.why] = byc [UInt8.ofNat c.why.toNat] := by
    have := ho.why; simp [byc]; omega
  have hif := ho.ifl
  have hu := ho.iuniq
  clear hm ho h3
  unfold Chg.goodP at h4
  obtain ⟨kind, ten, ikey, ival, ifl, idue, iuniq, key, why, to, prim⟩ := c
  unfold Chg.av
  simp only at *
  have n1 := num1 (x := ten) (by omega) (by omega)
  have s1 := small_len10 (n := ten.toNat) (by omega)
  by_cases k3 : kind = 3
  · subst k3
    clear hwhy
    simp only [Chg.putL, Int.reduceEq, if_true, if_false] at hK
    refine WC_of_body hT Try.func59 rfl (by simp [Try.f59]) (by simp [Try.f59]) (wx_sound hT _ ?_)
    simp only [Try.f59]
    repeat' (first | simp only [go_sem, Nat.reduceLT, Nat.reduceEqDiff, Nat.reduceAdd, Nat.reduceMul, Nat.reduceSub, Nat.reduceLeDiff, Int.reduceToNat, Int.reduceNeg, Int.reduceLT, Int.reduceLE, Int.reduceEq, reduceCtorEq, Int.natCast_zero, Int.natCast_one, Int.cast_ofNat_Int, Bool.not_not, false_eq_decide, true_eq_decide, hread0, hreadk, read_cons0, read_consk, astore_h0, astore_hk, hget0, hgetk, hset0, hsetk, hlen, hcat, Nat.add_assoc, Nat.add_zero, Nat.zero_add, List.length_append, and_true, true_and, AV.flat, *, -hK, -hkind, -n1, -s1] | with_reducible refine IfB_dec (fun h => ?_) (fun h => ?_) | with_reducible refine Guard_dec (fun h => ?_) (fun h => ?_) | with_reducible refine Guard_ndec (fun h => ?_) (fun h => ?_) | with_reducible refine Guard_not (fun h => ?_) (fun h => ?_) | with_reducible refine IfB_ndec (fun h => ?_) (fun h => ?_) | with_reducible refine IfB_not (fun h => ?_) (fun h => ?_) | with_reducible refine Guard_split (fun h => ?_) (fun h => ?_) | with_reducible refine IfB_split (fun h => ?_) (fun h => ?_))
    have o1 : Ob (H.length + 1) (H ++ [(⟨[.int .u8 3, .int .i64 ten, .str ikey, .str ival, .int .u32 ifl, .int .i64 idue, .int .u64 iuniq, .str key, .int .u8 why, .int .i64 to, .bool prim], 0, .full⟩ : Blk), ⟨[.int .u8 3], 1, .full⟩, ⟨[.int .i64 ten], 1, .full⟩]) (.sl (H.length + 1) 0 1 none) [UInt8.ofNat (Int.toNat 3)] := Own.whole (Nat.le_refl _) (by rw [hgetk, ← hkind]; rfl) rfl rfl
    refine (refNums_spec _ [ten] _ (get_vs (by rw [hgetk]; rfl) rfl rfl) (by simp)).mono ?_
    rintro r2 H2 ⟨o2, k2⟩
    have hb2 := k2.get (b := H.length) (B := ⟨[.int .u8 3, .int .i64 ten, .str ikey, .str ival, .int .u32 ifl, .int .i64 idue, .int .u64 iuniq, .str key, .int .u8 why, .int .i64 to, .bool prim], 0, .full⟩) (by rw [hget0]; rfl) (by simp)
    have hl2 := k2.len
    simp only [List.length_append, List.length_cons, List.length_nil] at hl2
    have oo := o1.keep0 k2
    have nl := numsL_len [ten]
    simp only [List.length_cons, List.length_nil] at nl
    repeat' (first | simp only [go_sem, Nat.reduceLT, Nat.reduceEqDiff, Nat.reduceAdd, Nat.reduceMul, Nat.reduceSub, Nat.reduceLeDiff, Int.reduceToNat, Int.reduceNeg, Int.reduceLT, Int.reduceLE, Int.reduceEq, reduceCtorEq, Int.natCast_zero, Int.natCast_one, Int.cast_ofNat_Int, Bool.not_not, false_eq_decide, true_eq_decide, hread0, hreadk, read_cons0, read_consk, astore_h0, astore_hk, hget0, hgetk, hset0, hsetk, hlen, hcat, Nat.add_assoc, Nat.add_zero, Nat.zero_add, List.length_append, and_true, true_and, AV.flat, hb2, get_app hb2, read_get hb2, read_app hb2, *, -hK, -hkind, -n1, -s1, -o1, -o2, -k2, -oo, -nl] | with_reducible refine IfB_dec (fun h => ?_) (fun h => ?_) | with_reducible refine Guard_dec (fun h => ?_) (fun h => ?_) | with_reducible refine Guard_ndec (fun h => ?_) (fun h => ?_) | with_reducible refine Guard_not (fun h => ?_) (fun h => ?_) | with_reducible refine IfB_ndec (fun h => ?_) (fun h => ?_) | with_reducible refine IfB_not (fun h => ?_) (fun h => ?_) | with_reducible refine Guard_split (fun h => ?_) (fun h => ?_) | with_reducible refine IfB_split (fun h => ?_) (fun h => ?_))
    refine append_gr (m := H.length + 1) oo se30 az5 td5 rfl (o2.bs.src tk30) (by simp only [List.length_cons, List.length_nil]; omega) (by omega) ?_
    intro r3 H3 g3
    have hb3 := g3.keep.get hb2 (oo.ne (by omega))
    have hl3 := g3.keep.len
    have o3 := g3.own
    have k3 : Keep none H H3 := g3.keep0 ((Keep.app none H _).trans k2) (fun b hb => by have := oo.ge hb; omega)
    clear g3 oo o1 o2 k2 hb2
    repeat' (first | simp only [go_sem, Nat.reduceLT, Nat.reduceEqDiff, Nat.reduceAdd, Nat.reduceMul, Nat.reduceSub, Nat.reduceLeDiff, Int.reduceToNat, Int.reduceNeg, Int.reduceLT, Int.reduceLE, Int.reduceEq, reduceCtorEq, Int.natCast_zero, Int.natCast_one, Int.cast_ofNat_Int, Bool.not_not, false_eq_decide, true_eq_decide, hread0, hreadk, read_cons0, read_consk, astore_h0, astore_hk, hget0, hgetk, hset0, hsetk, hlen, hcat, Nat.add_assoc, Nat.add_zero, Nat.zero_add, List.length_append, and_true, true_and, AV.flat, *, -hK, -hkind, -n1, -s1, -o3, -k3, -nl] | with_reducible refine IfB_dec (fun h => ?_) (fun h => ?_) | with_reducible refine Guard_dec (fun h => ?_) (fun h => ?_) | with_reducible refine Guard_ndec (fun h => ?_) (fun h => ?_) | with_reducible refine Guard_not (fun h => ?_) (fun h => ?_) | with_reducible refine IfB_ndec (fun h => ?_) (fun h => ?_) | with_reducible refine IfB_not (fun h => ?_) (fun h => ?_) | with_reducible refine Guard_split (fun h => ?_) (fun h => ?_) | with_reducible refine IfB_split (fun h => ?_) (fun h => ?_))
    have oE := o3.mono (m' := H.length) (by omega)
    refine hK _ _ ⟨?_, k3⟩
    refine cast (congrArg (Ob H.length _ _) ?_) oE
    rw [n1]; simp
  by_cases k4 : kind = 4
  · subst k4
    clear hwhy
    simp only [Chg.putL, Int.reduceEq, if_true, if_false] at hK h4
    refine WC_of_body hT Try.func59 rfl (by simp [Try.f59]) (by simp [Try.f59]) (wx_sound hT _ ?_)
    simp only [Try.f59]
    repeat' (first | simp only [go_sem, Nat.reduceLT, Nat.reduceEqDiff, Nat.reduceAdd, Nat.reduceMul, Nat.reduceSub, Nat.reduceLeDiff, Int.reduceToNat, Int.reduceNeg, Int.reduceLT, Int.reduceLE, Int.reduceEq, reduceCtorEq, Int.natCast_zero, Int.natCast_one, Int.cast_ofNat_Int, Bool.not_not, false_eq_decide, true_eq_decide, hread0, hreadk, read_cons0, read_consk, astore_h0, astore_hk, hget0, hgetk, hset0, hsetk, hlen, hcat, Nat.add_assoc, Nat.add_zero, Nat.zero_add, List.length_append, and_true, true_and, AV.flat, *, -hK, -hkind, -n1, -s1] | with_reducible refine IfB_dec (fun h => ?_) (fun h => ?_) | with_reducible refine Guard_dec (fun h => ?_) (fun h => ?_) | with_reducible refine Guard_ndec (fun h => ?_) (fun h => ?_) | with_reducible refine Guard_not (fun h => ?_) (fun h => ?_) | with_reducible refine IfB_ndec (fun h => ?_) (fun h => ?_) | with_reducible refine IfB_not (fun h => ?_) (fun h => ?_) | with_reducible refine Guard_split (fun h => ?_) (fun h => ?_) | with_reducible refine IfB_split (fun h => ?_) (fun h => ?_))
    have o1 : Ob (H.length + 1) (H ++ [(⟨[.int .u8 4, .int .i64 ten, .str ikey, .str ival, .int .u32 ifl, .int .i64 idue, .int .u64 iuniq, .str key, .int .u8 why, .int .i64 to, .bool prim], 0, .full⟩ : Blk), ⟨[.int .u8 4], 1, .full⟩, ⟨[.int .i64 to], 1, .full⟩]) (.sl (H.length + 1) 0 1 none) [UInt8.ofNat (Int.toNat 4)] := Own.whole (Nat.le_refl _) (by rw [hgetk, ← hkind]; rfl) rfl rfl
    refine (refNums_spec _ [to] _ (get_vs (by rw [hgetk]; rfl) rfl rfl) (by simp)).mono ?_
    rintro r2 H2 ⟨o2, k2⟩
    have hb2 := k2.get (b := H.length) (B := ⟨[.int .u8 4, .int .i64 ten, .str ikey, .str ival, .int .u32 ifl, .int .i64 idue, .int .u64 iuniq, .str key, .int .u8 why, .int .i64 to, .bool prim], 0, .full⟩) (by rw [hget0]; rfl) (by simp)
    have hl2 := k2.len
    simp only [List.length_append, List.length_cons, List.length_nil] at hl2
    have oo := o1.keep0 k2
    have nl := numsL_len [to]
    simp only [List.length_cons, List.length_nil] at nl
    repeat' (first | simp only [go_sem, Nat.reduceLT, Nat.reduceEqDiff, Nat.reduceAdd, Nat.reduceMul, Nat.reduceSub, Nat.reduceLeDiff, Int.reduceToNat, Int.reduceNeg, Int.reduceLT, Int.reduceLE, Int.reduceEq, reduceCtorEq, Int.natCast_zero, Int.natCast_one, Int.cast_ofNat_Int, Bool.not_not, false_eq_decide, true_eq_decide, hread0, hreadk, read_cons0, read_consk, astore_h0, astore_hk, hget0, hgetk, hset0, hsetk, hlen, hcat, Nat.add_assoc, Nat.add_zero, Nat.zero_add, List.length_append, and_true, true_and, AV.flat, hb2, get_app hb2, read_get hb2, read_app hb2, *, -hK, -hkind, -n1, -s1, -o1, -o2, -k2, -oo, -nl] | with_reducible refine IfB_dec (fun h => ?_) (fun h => ?_) | with_reducible refine Guard_dec (fun h => ?_) (fun h => ?_) | with_reducible refine Guard_ndec (fun h => ?_) (fun h => ?_) | with_reducible refine Guard_not (fun h => ?_) (fun h => ?_) | with_reducible refine IfB_ndec (fun h => ?_) (fun h => ?_) | with_reducible refine IfB_not (fun h => ?_) (fun h => ?_) | with_reducible refine Guard_split (fun h => ?_) (fun h => ?_) | with_reducible refine IfB_split (fun h => ?_) (fun h => ?_))
    refine append_gr (m := H.length + 1) oo se30 az5 td5 rfl (o2.bs.src tk30) (by simp only [List.length_cons, List.length_nil]; omega) (by omega) ?_
    intro r3 H3 g3
    have hb3 := g3.keep.get hb2 (oo.ne (by omega))
    have hl3 := g3.keep.len
    have o3 := g3.own
    have k3 : Keep none H H3 := g3.keep0 ((Keep.app none H _).trans k2) (fun b hb => by have := oo.ge hb; omega)
    clear g3 oo o1 o2 k2 hb2
    repeat' (first | simp only [go_sem, Nat.reduceLT, Nat.reduceEqDiff, Nat.reduceAdd, Nat.reduceMul, Nat.reduceSub, Nat.reduceLeDiff, Int.reduceToNat, Int.reduceNeg, Int.reduceLT, Int.reduceLE, Int.reduceEq, reduceCtorEq, Int.natCast_zero, Int.natCast_one, Int.cast_ofNat_Int, Bool.not_not, false_eq_decide, true_eq_decide, hread0, hreadk, read_cons0, read_consk, astore_h0, astore_hk, hget0, hgetk, hset0, hsetk, hlen, hcat, Nat.add_assoc, Nat.add_zero, Nat.zero_add, List.length_append, and_true, true_and, AV.flat, *, -hK, -hkind, -n1, -s1, -o3, -k3, -nl] | with_reducible refine IfB_dec (fun h => ?_) (fun h => ?_) | with_reducible refine Guard_dec (fun h => ?_) (fun h => ?_) | with_reducible refine Guard_ndec (fun h => ?_) (fun h => ?_) | with_reducible refine Guard_not (fun h => ?_) (fun h => ?_) | with_reducible refine IfB_ndec (fun h => ?_) (fun h => ?_) | with_reducible refine IfB_not (fun h => ?_) (fun h => ?_) | with_reducible refine Guard_split (fun h => ?_) (fun h => ?_) | with_reducible refine IfB_split (fun h => ?_) (fun h => ?_))
    have oE := o3.mono (m' := H.length) (by omega)
    refine hK _ _ ⟨?_, k3⟩
    refine cast (congrArg (Ob H.length _ _) ?_) oE
    rw [num1 (x := to) (by omega) (by omega)]; simp
  by_cases k7 : kind = 7
  · subst k7
    clear hwhy
    simp only [Chg.putL, Int.reduceEq, if_true, if_false] at hK h4
    refine WC_of_body hT Try.func59 rfl (by simp [Try.f59]) (by simp [Try.f59]) (wx_sound hT _ ?_)
    simp only [Try.f59]
    repeat' (first | simp only [go_sem, Nat.reduceLT, Nat.reduceEqDiff, Nat.reduceAdd, Nat.reduceMul, Nat.reduceSub, Nat.reduceLeDiff, Int.reduceToNat, Int.reduceNeg, Int.reduceLT, Int.reduceLE, Int.reduceEq, reduceCtorEq, Int.natCast_zero, Int.natCast_one, Int.cast_ofNat_Int, Bool.not_not, false_eq_decide, true_eq_decide, hread0, hreadk, read_cons0, read_consk, astore_h0, astore_hk, hget0, hgetk, hset0, hsetk, hlen, hcat, Nat.add_assoc, Nat.add_zero, Nat.zero_add, List.length_append, and_true, true_and, AV.flat, *, -hK, -hkind, -n1, -s1] | with_reducible refine IfB_dec (fun h => ?_) (fun h => ?_) | with_reducible refine Guard_dec (fun h => ?_) (fun h => ?_) | with_reducible refine Guard_ndec (fun h => ?_) (fun h => ?_) | with_reducible refine Guard_not (fun h => ?_) (fun h => ?_) | with_reducible refine IfB_ndec (fun h => ?_) (fun h => ?_) | with_reducible refine IfB_not (fun h => ?_) (fun h => ?_) | with_reducible refine Guard_split (fun h => ?_) (fun h => ?_) | with_reducible refine IfB_split (fun h => ?_) (fun h => ?_))
    have o1 : Ob (H.length + 1) (H ++ [(⟨[.int .u8 7, .int .i64 ten, .str ikey, .str ival, .int .u32 ifl, .int .i64 idue, .int .u64 iuniq, .str key, .int .u8 why, .int .i64 to, .bool prim], 0, .full⟩ : Blk), ⟨[.int .u8 7], 1, .full⟩, ⟨[.int .i64 to], 1, .full⟩]) (.sl (H.length + 1) 0 1 none) [UInt8.ofNat (Int.toNat 7)] := Own.whole (Nat.le_refl _) (by rw [hgetk, ← hkind]; rfl) rfl rfl
    refine (refNums_spec _ [to] _ (get_vs (by rw [hgetk]; rfl) rfl rfl) (by simp)).mono ?_
    rintro r2 H2 ⟨o2, k2⟩
    have hb2 := k2.get (b := H.length) (B := ⟨[.int .u8 7, .int .i64 ten, .str ikey, .str ival, .int .u32 ifl, .int .i64 idue, .int .u64 iuniq, .str key, .int .u8 why, .int .i64 to, .bool prim], 0, .full⟩) (by rw [hget0]; rfl) (by simp)
    have hl2 := k2.len
    simp only [List.length_append, List.length_cons, List.length_nil] at hl2
    have oo := o1.keep0 k2
    have nl := numsL_len [to]
    simp only [List.length_cons, List.length_nil] at nl
    repeat' (first | simp only [go_sem, Nat.reduceLT, Nat.reduceEqDiff, Nat.reduceAdd, Nat.reduceMul, Nat.reduceSub, Nat.reduceLeDiff, Int.reduceToNat, Int.reduceNeg, Int.reduceLT, Int.reduceLE, Int.reduceEq, reduceCtorEq, Int.natCast_zero, Int.natCast_one, Int.cast_ofNat_Int, Bool.not_not, false_eq_decide, true_eq_decide, hread0, hreadk, read_cons0, read_consk, astore_h0, astore_hk, hget0, hgetk, hset0, hsetk, hlen, hcat, Nat.add_assoc, Nat.add_zero, Nat.zero_add, List.length_append, and_true, true_and, AV.flat, hb2, get_app hb2, read_get hb2, read_app hb2, *, -hK, -hkind, -n1, -s1, -o1, -o2, -k2, -oo, -nl] | with_reducible refine IfB_dec (fun h => ?_) (fun h => ?_) | with_reducible refine Guard_dec (fun h => ?_) (fun h => ?_) | with_reducible refine Guard_ndec (fun h => ?_) (fun h => ?_) | with_reducible refine Guard_not (fun h => ?_) (fun h => ?_) | with_reducible refine IfB_ndec (fun h => ?_) (fun h => ?_) | with_reducible refine IfB_not (fun h => ?_) (fun h => ?_) | with_reducible refine Guard_split (fun h => ?_) (fun h => ?_) | with_reducible refine IfB_split (fun h => ?_) (fun h => ?_))
    refine append_gr (m := H.length + 1) oo se30 az5 td5 rfl (o2.bs.src tk30) (by simp only [List.length_cons, List.length_nil]; omega) (by omega) ?_
    intro r3 H3 g3
    have hb3 := g3.keep.get hb2 (oo.ne (by omega))
    have hl3 := g3.keep.len
    have o3 := g3.own
    have k3 : Keep none H H3 := g3.keep0 ((Keep.app none H _).trans k2) (fun b hb => by have := oo.ge hb; omega)
    clear g3 oo o1 o2 k2 hb2
    repeat' (first | simp only [go_sem, Nat.reduceLT, Nat.reduceEqDiff, Nat.reduceAdd, Nat.reduceMul, Nat.reduceSub, Nat.reduceLeDiff, Int.reduceToNat, Int.reduceNeg, Int.reduceLT, Int.reduceLE, Int.reduceEq, reduceCtorEq, Int.natCast_zero, Int.natCast_one, Int.cast_ofNat_Int, Bool.not_not, false_eq_decide, true_eq_decide, hread0, hreadk, read_cons0, read_consk, astore_h0, astore_hk, hget0, hgetk, hset0, hsetk, hlen, hcat, Nat.add_assoc, Nat.add_zero, Nat.zero_add, List.length_append, and_true, true_and, AV.flat, *, -hK, -hkind, -n1, -s1, -o3, -k3, -nl] | with_reducible refine IfB_dec (fun h => ?_) (fun h => ?_) | with_reducible refine Guard_dec (fun h => ?_) (fun h => ?_) | with_reducible refine Guard_ndec (fun h => ?_) (fun h => ?_) | with_reducible refine Guard_not (fun h => ?_) (fun h => ?_) | with_reducible refine IfB_ndec (fun h => ?_) (fun h => ?_) | with_reducible refine IfB_not (fun h => ?_) (fun h => ?_) | with_reducible refine Guard_split (fun h => ?_) (fun h => ?_) | with_reducible refine IfB_split (fun h => ?_) (fun h => ?_))
    have oE := o3.mono (m' := H.length) (by omega)
    refine hK _ _ ⟨?_, k3⟩
    refine cast (congrArg (Ob H.length _ _) ?_) oE
    rw [num1 (x := to) (by omega) (by omega)]; simp
  by_cases k5 : kind = 5
  · subst k5
    clear hwhy
    simp only [Chg.putL, Int.reduceEq, if_true, if_false] at hK h4
    refine WC_of_body hT Try.func59 rfl (by simp [Try.f59]) (by simp [Try.f59]) (wx_sound hT _ ?_)
    simp only [Try.f59]
    repeat' (first | simp only [go_sem, Nat.reduceLT, Nat.reduceEqDiff, Nat.reduceAdd, Nat.reduceMul, Nat.reduceSub, Nat.reduceLeDiff, Int.reduceToNat, Int.reduceNeg, Int.reduceLT, Int.reduceLE, Int.reduceEq, reduceCtorEq, Int.natCast_zero, Int.natCast_one, Int.cast_ofNat_Int, Bool.not_not, false_eq_decide, true_eq_decide, hread0, hreadk, read_cons0, read_consk, astore_h0, astore_hk, hget0, hgetk, hset0, hsetk, hlen, hcat, Nat.add_assoc, Nat.add_zero, Nat.zero_add, List.length_append, and_true, true_and, AV.flat, *, -hK, -hkind, -n1, -s1] | with_reducible refine IfB_dec (fun h => ?_) (fun h => ?_) | with_reducible refine Guard_dec (fun h => ?_) (fun h => ?_) | with_reducible refine Guard_ndec (fun h => ?_) (fun h => ?_) | with_reducible refine Guard_not (fun h => ?_) (fun h => ?_) | with_reducible refine IfB_ndec (fun h => ?_) (fun h => ?_) | with_reducible refine IfB_not (fun h => ?_) (fun h => ?_) | with_reducible refine Guard_split (fun h => ?_) (fun h => ?_) | with_reducible refine IfB_split (fun h => ?_) (fun h => ?_))
    have o1 : Ob (H.length + 1) (H ++ [(⟨[.int .u8 5, .int .i64 ten, .str ikey, .str ival, .int .u32 ifl, .int .i64 idue, .int .u64 iuniq, .str key, .int .u8 why, .int .i64 to, .bool prim], 0, .full⟩ : Blk), ⟨[.int .u8 5], 1, .full⟩, ⟨[.int .i64 ten, .int .i64 to], 1, .full⟩]) (.sl (H.length + 1) 0 1 none) [UInt8.ofNat (Int.toNat 5)] := Own.whole (Nat.le_refl _) (by rw [hgetk, ← hkind]; rfl) rfl rfl
    refine (refNums_spec _ [ten, to] _ (get_vs (by rw [hgetk]; rfl) rfl rfl) (by simp)).mono ?_
    rintro r2 H2 ⟨o2, k2⟩
    have hb2 := k2.get (b := H.length) (B := ⟨[.int .u8 5, .int .i64 ten, .str ikey, .str ival, .int .u32 ifl, .int .i64 idue, .int .u64 iuniq, .str key, .int .u8 why, .int .i64 to, .bool prim], 0, .full⟩) (by rw [hget0]; rfl) (by simp)
    have hl2 := k2.len
    simp only [List.length_append, List.length_cons, List.length_nil] at hl2
    have oo := o1.keep0 k2
    have nl := numsL_len [ten, to]
    simp only [List.length_cons, List.length_nil] at nl
    repeat' (first | simp only [go_sem, Nat.reduceLT, Nat.reduceEqDiff, Nat.reduceAdd, Nat.reduceMul, Nat.reduceSub, Nat.reduceLeDiff, Int.reduceToNat, Int.reduceNeg, Int.reduceLT, Int.reduceLE, Int.reduceEq, reduceCtorEq, Int.natCast_zero, Int.natCast_one, Int.cast_ofNat_Int, Bool.not_not, false_eq_decide, true_eq_decide, hread0, hreadk, read_cons0, read_consk, astore_h0, astore_hk, hget0, hgetk, hset0, hsetk, hlen, hcat, Nat.add_assoc, Nat.add_zero, Nat.zero_add, List.length_append, and_true, true_and, AV.flat, hb2, get_app hb2, read_get hb2, read_app hb2, *, -hK, -hkind, -n1, -s1, -o1, -o2, -k2, -oo, -nl] | with_reducible refine IfB_dec (fun h => ?_) (fun h => ?_) | with_reducible refine Guard_dec (fun h => ?_) (fun h => ?_) | with_reducible refine Guard_ndec (fun h => ?_) (fun h => ?_) | with_reducible refine Guard_not (fun h => ?_) (fun h => ?_) | with_reducible refine IfB_ndec (fun h => ?_) (fun h => ?_) | with_reducible refine IfB_not (fun h => ?_) (fun h => ?_) | with_reducible refine Guard_split (fun h => ?_) (fun h => ?_) | with_reducible refine IfB_split (fun h => ?_) (fun h => ?_))
    refine append_gr (m := H.length + 1) oo se30 az5 td5 rfl (o2.bs.src tk30) (by simp only [List.length_cons, List.length_nil]; omega) (by omega) ?_
    intro r3 H3 g3
    have hb3 := g3.keep.get hb2 (oo.ne (by omega))
    have hl3 := g3.keep.len
    have o3 := g3.own
    have k3 : Keep none H H3 := g3.keep0 ((Keep.app none H _).trans k2) (fun b hb => by have := oo.ge hb; omega)
    clear g3 oo o1 o2 k2 hb2
    repeat' (first | simp only [go_sem, Nat.reduceLT, Nat.reduceEqDiff, Nat.reduceAdd, Nat.reduceMul, Nat.reduceSub, Nat.reduceLeDiff, Int.reduceToNat, Int.reduceNeg, Int.reduceLT, Int.reduceLE, Int.reduceEq, reduceCtorEq, Int.natCast_zero, Int.natCast_one, Int.cast_ofNat_Int, Bool.not_not, false_eq_decide, true_eq_decide, hread0, hreadk, read_cons0, read_consk, astore_h0, astore_hk, hget0, hgetk, hset0, hsetk, hlen, hcat, Nat.add_assoc, Nat.add_zero, Nat.zero_add, List.length_append, and_true, true_and, AV.flat, *, -hK, -hkind, -n1, -s1, -o3, -k3, -nl] | with_reducible refine IfB_dec (fun h => ?_) (fun h => ?_) | with_reducible refine Guard_dec (fun h => ?_) (fun h => ?_) | with_reducible refine Guard_ndec (fun h => ?_) (fun h => ?_) | with_reducible refine Guard_not (fun h => ?_) (fun h => ?_) | with_reducible refine IfB_ndec (fun h => ?_) (fun h => ?_) | with_reducible refine IfB_not (fun h => ?_) (fun h => ?_) | with_reducible refine Guard_split (fun h => ?_) (fun h => ?_) | with_reducible refine IfB_split (fun h => ?_) (fun h => ?_))
    have oE := o3.mono (m' := H.length) (by omega)
    refine hK _ _ ⟨?_, k3⟩
    refine cast (congrArg (Ob H.length _ _) ?_) oE
    simp only [numsL, List.flatMap_cons, List.flatMap_nil, List.append_nil]
    rw [u64w_id (show 0 ≤ ten by omega) (by omega), u64w_id (show 0 ≤ to by omega) (by omega)]; simp
  by_cases k6 : kind = 6
  · subst k6
    clear hwhy
    simp only [Chg.putL, Int.reduceEq, if_true, if_false] at hK h4
    cases prim
    · skip
      refine WC_of_body hT Try.func59 rfl (by simp [Try.f59]) (by simp [Try.f59]) (wx_sound hT _ ?_)
      simp only [Try.f59]
      repeat' (first | simp only [go_sem, Nat.reduceLT, Nat.reduceEqDiff, Nat.reduceAdd, Nat.reduceMul, Nat.reduceSub, Nat.reduceLeDiff, Int.reduceToNat, Int.reduceNeg, Int.reduceLT, Int.reduceLE, Int.reduceEq, reduceCtorEq, Int.natCast_zero, Int.natCast_one, Int.cast_ofNat_Int, Bool.not_not, false_eq_decide, true_eq_decide, hread0, hreadk, read_cons0, read_consk, astore_h0, astore_hk, hget0, hgetk, hset0, hsetk, hlen, hcat, Nat.add_assoc, Nat.add_zero, Nat.zero_add, List.length_append, and_true, true_and, AV.flat, *, -hK, -hkind, -n1, -s1] | with_reducible refine IfB_dec (fun h => ?_) (fun h => ?_) | with_reducible refine Guard_dec (fun h => ?_) (fun h => ?_) | with_reducible refine Guard_ndec (fun h => ?_) (fun h => ?_) | with_reducible refine Guard_not (fun h => ?_) (fun h => ?_) | with_reducible refine IfB_ndec (fun h => ?_) (fun h => ?_) | with_reducible refine IfB_not (fun h => ?_) (fun h => ?_) | with_reducible refine Guard_split (fun h => ?_) (fun h => ?_) | with_reducible refine IfB_split (fun h => ?_) (fun h => ?_))
      have o1 : Ob (H.length + 1) (H ++ [(⟨[.int .u8 6, .int .i64 ten, .str ikey, .str ival, .int .u32 ifl, .int .i64 idue, .int .u64 iuniq, .str key, .int .u8 why, .int .i64 to, .bool false], 0, .full⟩ : Blk), ⟨[.int .u8 6], 1, .full⟩, ⟨[.int .i64 to], 1, .full⟩]) (.sl (H.length + 1) 0 1 none) [UInt8.ofNat (Int.toNat 6)] := Own.whole (Nat.le_refl _) (by rw [hgetk, ← hkind]; rfl) rfl rfl
      refine (refNums_spec _ [to] _ (get_vs (by rw [hgetk]; rfl) rfl rfl) (by simp)).mono ?_
      rintro r2 H2 ⟨o2, k2⟩
      have hb2 := k2.get (b := H.length) (B := ⟨[.int .u8 6, .int .i64 ten, .str ikey, .str ival, .int .u32 ifl, .int .i64 idue, .int .u64 iuniq, .str key, .int .u8 why, .int .i64 to, .bool false], 0, .full⟩) (by rw [hget0]; rfl) (by simp)
      have hl2 := k2.len
      simp only [List.length_append, List.length_cons, List.length_nil] at hl2
      have oo := o1.keep0 k2
      have nl := numsL_len [to]
      simp only [List.length_cons, List.length_nil] at nl
      repeat' (first | simp only [go_sem, Nat.reduceLT, Nat.reduceEqDiff, Nat.reduceAdd, Nat.reduceMul, Nat.reduceSub, Nat.reduceLeDiff, Int.reduceToNat, Int.reduceNeg, Int.reduceLT, Int.reduceLE, Int.reduceEq, reduceCtorEq, Int.natCast_zero, Int.natCast_one, Int.cast_ofNat_Int, Bool.not_not, false_eq_decide, true_eq_decide, hread0, hreadk, read_cons0, read_consk, astore_h0, astore_hk, hget0, hgetk, hset0, hsetk, hlen, hcat, Nat.add_assoc, Nat.add_zero, Nat.zero_add, List.length_append, and_true, true_and, AV.flat, hb2, get_app hb2, read_get hb2, read_app hb2, *, -hK, -hkind, -n1, -s1, -o1, -o2, -k2, -oo, -nl] | with_reducible refine IfB_dec (fun h => ?_) (fun h => ?_) | with_reducible refine Guard_dec (fun h => ?_) (fun h => ?_) | with_reducible refine Guard_ndec (fun h => ?_) (fun h => ?_) | with_reducible refine Guard_not (fun h => ?_) (fun h => ?_) | with_reducible refine IfB_ndec (fun h => ?_) (fun h => ?_) | with_reducible refine IfB_not (fun h => ?_) (fun h => ?_) | with_reducible refine Guard_split (fun h => ?_) (fun h => ?_) | with_reducible refine IfB_split (fun h => ?_) (fun h => ?_))
      refine append_gr (m := H.length + 1) oo se30 az5 td5 rfl (o2.bs.src tk30) (by simp only [List.length_cons, List.length_nil]; omega) (by omega) ?_
      intro r3 H3 g3
      have hb3 := g3.keep.get hb2 (oo.ne (by omega))
      have hl3 := g3.keep.len
      have o3 := g3.own
      have k3 : Keep none H H3 := g3.keep0 ((Keep.app none H _).trans k2) (fun b hb => by have := oo.ge hb; omega)
      clear g3 oo o1 o2 k2 hb2
      repeat' (first | simp only [go_sem, Nat.reduceLT, Nat.reduceEqDiff, Nat.reduceAdd, Nat.reduceMul, Nat.reduceSub, Nat.reduceLeDiff, Int.reduceToNat, Int.reduceNeg, Int.reduceLT, Int.reduceLE, Int.reduceEq, reduceCtorEq, Int.natCast_zero, Int.natCast_one, Int.cast_ofNat_Int, Bool.not_not, false_eq_decide, true_eq_decide, hread0, hreadk, read_cons0, read_consk, astore_h0, astore_hk, hget0, hgetk, hset0, hsetk, hlen, hcat, Nat.add_assoc, Nat.add_zero, Nat.zero_add, List.length_append, and_true, true_and, AV.flat, hb3, get_app hb3, read_get hb3, read_app hb3, *, -hK, -hkind, -n1, -s1, -o3, -k3, -nl] | with_reducible refine IfB_dec (fun h => ?_) (fun h => ?_) | with_reducible refine Guard_dec (fun h => ?_) (fun h => ?_) | with_reducible refine Guard_ndec (fun h => ?_) (fun h => ?_) | with_reducible refine Guard_not (fun h => ?_) (fun h => ?_) | with_reducible refine IfB_ndec (fun h => ?_) (fun h => ?_) | with_reducible refine IfB_not (fun h => ?_) (fun h => ?_) | with_reducible refine Guard_split (fun h => ?_) (fun h => ?_) | with_reducible refine IfB_split (fun h => ?_) (fun h => ?_))
      refine append_gr (m := H.length + 1) (o3.keep0 (Keep.app none H3 [(⟨[.int .u8 0], 1, .full⟩ : Blk)])) se30 az5 td5 rfl (r := [0]) (Bs.src (l := [0]) (get_vs (by rw [hget0]; rfl) rfl rfl) tk30) (by simp; omega) (by simp; omega) ?_
      intro r4 H4 g4
      have k4 := g4.keep0 (k3.trans (Keep.app none H3 _)) (fun b hb => by have := o3.ge hb; omega)
      repeat' (first | simp only [go_sem, Nat.reduceLT, Nat.reduceEqDiff, Nat.reduceAdd, Nat.reduceMul, Nat.reduceSub, Nat.reduceLeDiff, Int.reduceToNat, Int.reduceNeg, Int.reduceLT, Int.reduceLE, Int.reduceEq, reduceCtorEq, Int.natCast_zero, Int.natCast_one, Int.cast_ofNat_Int, Bool.not_not, false_eq_decide, true_eq_decide, hread0, hreadk, read_cons0, read_consk, astore_h0, astore_hk, hget0, hgetk, hset0, hsetk, hlen, hcat, Nat.add_assoc, Nat.add_zero, Nat.zero_add, List.length_append, and_true, true_and, AV.flat, *, -hK, -hkind, -n1, -s1, -o3, -k3, -k4, -nl] | with_reducible refine IfB_dec (fun h => ?_) (fun h => ?_) | with_reducible refine Guard_dec (fun h => ?_) (fun h => ?_) | with_reducible refine Guard_ndec (fun h => ?_) (fun h => ?_) | with_reducible refine Guard_not (fun h => ?_) (fun h => ?_) | with_reducible refine IfB_ndec (fun h => ?_) (fun h => ?_) | with_reducible refine IfB_not (fun h => ?_) (fun h => ?_) | with_reducible refine Guard_split (fun h => ?_) (fun h => ?_) | with_reducible refine IfB_split (fun h => ?_) (fun h => ?_))
      have oE := g4.own.mono (m' := H.length) (by omega)
      refine hK _ _ ⟨?_, k4⟩
      refine cast (congrArg (Ob H.length _ _) ?_) oE
      rw [num1 (x := to) (by omega) (by omega)]; simp
    · skip
      refine WC_of_body hT Try.func59 rfl (by simp [Try.f59]) (by simp [Try.f59]) (wx_sound hT _ ?_)
      simp only [Try.f59]
      repeat' (first | simp only [go_sem, Nat.reduceLT, Nat.reduceEqDiff, Nat.reduceAdd, Nat.reduceMul, Nat.reduceSub, Nat.reduceLeDiff, Int.reduceToNat, Int.reduceNeg, Int.reduceLT, Int.reduceLE, Int.reduceEq, reduceCtorEq, Int.natCast_zero, Int.natCast_one, Int.cast_ofNat_Int, Bool.not_not, false_eq_decide, true_eq_decide, hread0, hreadk, read_cons0, read_consk, astore_h0, astore_hk, hget0, hgetk, hset0, hsetk, hlen, hcat, Nat.add_assoc, Nat.add_zero, Nat.zero_add, List.length_append, and_true, true_and, AV.flat, *, -hK, -hkind, -n1, -s1] | with_reducible refine IfB_dec (fun h => ?_) (fun h => ?_) | with_reducible refine Guard_dec (fun h => ?_) (fun h => ?_) | with_reducible refine Guard_ndec (fun h => ?_) (fun h => ?_) | with_reducible refine Guard_not (fun h => ?_) (fun h => ?_) | with_reducible refine IfB_ndec (fun h => ?_) (fun h => ?_) | with_reducible refine IfB_not (fun h => ?_) (fun h => ?_) | with_reducible refine Guard_split (fun h => ?_) (fun h => ?_) | with_reducible refine IfB_split (fun h => ?_) (fun h => ?_))
      have o1 : Ob (H.length + 1) (H ++ [(⟨[.int .u8 6, .int .i64 ten, .str ikey, .str ival, .int .u32 ifl, .int .i64 idue, .int .u64 iuniq, .str key, .int .u8 why, .int .i64 to, .bool true], 0, .full⟩ : Blk), ⟨[.int .u8 6], 1, .full⟩, ⟨[.int .i64 to], 1, .full⟩]) (.sl (H.length + 1) 0 1 none) [UInt8.ofNat (Int.toNat 6)] := Own.whole (Nat.le_refl _) (by rw [hgetk, ← hkind]; rfl) rfl rfl
      refine (refNums_spec _ [to] _ (get_vs (by rw [hgetk]; rfl) rfl rfl) (by simp)).mono ?_
      rintro r2 H2 ⟨o2, k2⟩
      have hb2 := k2.get (b := H.length) (B := ⟨[.int .u8 6, .int .i64 ten, .str ikey, .str ival, .int .u32 ifl, .int .i64 idue, .int .u64 iuniq, .str key, .int .u8 why, .int .i64 to, .bool true], 0, .full⟩) (by rw [hget0]; rfl) (by simp)
      have hl2 := k2.len
      simp only [List.length_append, List.length_cons, List.length_nil] at hl2
      have oo := o1.keep0 k2
      have nl := numsL_len [to]
      simp only [List.length_cons, List.length_nil] at nl
      repeat' (first | simp only [go_sem, Nat.reduceLT, Nat.reduceEqDiff, Nat.reduceAdd, Nat.reduceMul, Nat.reduceSub, Nat.reduceLeDiff, Int.reduceToNat, Int.reduceNeg, Int.reduceLT, Int.reduceLE, Int.reduceEq, reduceCtorEq, Int.natCast_zero, Int.natCast_one, Int.cast_ofNat_Int, Bool.not_not, false_eq_decide, true_eq_decide, hread0, hreadk, read_cons0, read_consk, astore_h0, astore_hk, hget0, hgetk, hset0, hsetk, hlen, hcat, Nat.add_assoc, Nat.add_zero, Nat.zero_add, List.length_append, and_true, true_and, AV.flat, hb2, get_app hb2, read_get hb2, read_app hb2, *, -hK, -hkind, -n1, -s1, -o1, -o2, -k2, -oo, -nl] | with_reducible refine IfB_dec (fun h => ?_) (fun h => ?_) | with_reducible refine Guard_dec (fun h => ?_) (fun h => ?_) | with_reducible refine Guard_ndec (fun h => ?_) (fun h => ?_) | with_reducible refine Guard_not (fun h => ?_) (fun h => ?_) | with_reducible refine IfB_ndec (fun h => ?_) (fun h => ?_) | with_reducible refine IfB_not (fun h => ?_) (fun h => ?_) | with_reducible refine Guard_split (fun h => ?_) (fun h => ?_) | with_reducible refine IfB_split (fun h => ?_) (fun h => ?_))
      refine append_gr (m := H.length + 1) oo se30 az5 td5 rfl (o2.bs.src tk30) (by simp only [List.length_cons, List.length_nil]; omega) (by omega) ?_
      intro r3 H3 g3
      have hb3 := g3.keep.get hb2 (oo.ne (by omega))
      have hl3 := g3.keep.len
      have o3 := g3.own
      have k3 : Keep none H H3 := g3.keep0 ((Keep.app none H _).trans k2) (fun b hb => by have := oo.ge hb; omega)
      clear g3 oo o1 o2 k2 hb2
      repeat' (first | simp only [go_sem, Nat.reduceLT, Nat.reduceEqDiff, Nat.reduceAdd, Nat.reduceMul, Nat.reduceSub, Nat.reduceLeDiff, Int.reduceToNat, Int.reduceNeg, Int.reduceLT, Int.reduceLE, Int.reduceEq, reduceCtorEq, Int.natCast_zero, Int.natCast_one, Int.cast_ofNat_Int, Bool.not_not, false_eq_decide, true_eq_decide, hread0, hreadk, read_cons0, read_consk, astore_h0, astore_hk, hget0, hgetk, hset0, hsetk, hlen, hcat, Nat.add_assoc, Nat.add_zero, Nat.zero_add, List.length_append, and_true, true_and, AV.flat, hb3, get_app hb3, read_get hb3, read_app hb3, *, -hK, -hkind, -n1, -s1, -o3, -k3, -nl] | with_reducible refine IfB_dec (fun h => ?_) (fun h => ?_) | with_reducible refine Guard_dec (fun h => ?_) (fun h => ?_) | with_reducible refine Guard_ndec (fun h => ?_) (fun h => ?_) | with_reducible refine Guard_not (fun h => ?_) (fun h => ?_) | with_reducible refine IfB_ndec (fun h => ?_) (fun h => ?_) | with_reducible refine IfB_not (fun h => ?_) (fun h => ?_) | with_reducible refine Guard_split (fun h => ?_) (fun h => ?_) | with_reducible refine IfB_split (fun h => ?_) (fun h => ?_))
      refine append_gr (m := H.length + 1) (o3.keep0 (Keep.app none H3 [(⟨[.int .u8 1], 1, .full⟩ : Blk)])) se30 az5 td5 rfl (r := [1]) (Bs.src (l := [1]) (get_vs (by rw [hget0]; rfl) rfl rfl) tk30) (by simp; omega) (by simp; omega) ?_
      intro r4 H4 g4
      have k4 := g4.keep0 (k3.trans (Keep.app none H3 _)) (fun b hb => by have := o3.ge hb; omega)
      repeat' (first | simp only [go_sem, Nat.reduceLT, Nat.reduceEqDiff, Nat.reduceAdd, Nat.reduceMul, Nat.reduceSub, Nat.reduceLeDiff, Int.reduceToNat, Int.reduceNeg, Int.reduceLT, Int.reduceLE, Int.reduceEq, reduceCtorEq, Int.natCast_zero, Int.natCast_one, Int.cast_ofNat_Int, Bool.not_not, false_eq_decide, true_eq_decide, hread0, hreadk, read_cons0, read_consk, astore_h0, astore_hk, hget0, hgetk, hset0, hsetk, hlen, hcat, Nat.add_assoc, Nat.add_zero, Nat.zero_add, List.length_append, and_true, true_and, AV.flat, *, -hK, -hkind, -n1, -s1, -o3, -k3, -k4, -nl] | with_reducible refine IfB_dec (fun h => ?_) (fun h => ?_) | with_reducible refine Guard_dec (fun h => ?_) (fun h => ?_) | with_reducible refine Guard_ndec (fun h => ?_) (fun h => ?_) | with_reducible refine Guard_not (fun h => ?_) (fun h => ?_) | with_reducible refine IfB_ndec (fun h => ?_) (fun h => ?_) | with_reducible refine IfB_not (fun h => ?_) (fun h => ?_) | with_reducible refine Guard_split (fun h => ?_) (fun h => ?_) | with_reducible refine IfB_split (fun h => ?_) (fun h => ?_))
      have oE := g4.own.mono (m' := H.length) (by omega)
      refine hK _ _ ⟨?_, k4⟩
      refine cast (congrArg (Ob H.length _ _) ?_) oE
      rw [num1 (x := to) (by omega) (by omega)]; simp
  by_cases k2 : kind = 2
  · subst k2
    simp only [Chg.putL, Int.reduceEq, if_true, if_false] at hK h4
    have sx := fun J => refTextP key (by omega) J
    have tl := textL_len (s := key) (by omega)
    refine WC_of_body hT Try.func59 rfl (by simp [Try.f59]) (by simp [Try.f59]) (wx_sound hT _ ?_)
    simp only [Try.f59]
    repeat' (first | simp only [go_sem, Nat.reduceLT, Nat.reduceEqDiff, Nat.reduceAdd, Nat.reduceMul, Nat.reduceSub, Nat.reduceLeDiff, Int.reduceToNat, Int.reduceNeg, Int.reduceLT, Int.reduceLE, Int.reduceEq, reduceCtorEq, Int.natCast_zero, Int.natCast_one, Int.cast_ofNat_Int, Bool.not_not, false_eq_decide, true_eq_decide, hread0, hreadk, read_cons0, read_consk, astore_h0, astore_hk, hget0, hgetk, hset0, hsetk, hlen, hcat, Nat.add_assoc, Nat.add_zero, Nat.zero_add, List.length_append, and_true, true_and, AV.flat, *, -hK, -hkind, -n1, -s1, -sx, -hwhy, -tl] | with_reducible refine IfB_dec (fun h => ?_) (fun h => ?_) | with_reducible refine Guard_dec (fun h => ?_) (fun h => ?_) | with_reducible refine Guard_ndec (fun h => ?_) (fun h => ?_) | with_reducible refine Guard_not (fun h => ?_) (fun h => ?_) | with_reducible refine IfB_ndec (fun h => ?_) (fun h => ?_) | with_reducible refine IfB_not (fun h => ?_) (fun h => ?_) | with_reducible refine Guard_split (fun h => ?_) (fun h => ?_) | with_reducible refine IfB_split (fun h => ?_) (fun h => ?_))
    have o1 : Ob (H.length + 1) (H ++ [(⟨[.int .u8 2, .int .i64 ten, .str ikey, .str ival, .int .u32 ifl, .int .i64 idue, .int .u64 iuniq, .str key, .int .u8 why, .int .i64 to, .bool prim], 0, .full⟩ : Blk), ⟨[.int .u8 2], 1, .full⟩, ⟨[.int .i64 ten], 1, .full⟩]) (.sl (H.length + 1) 0 1 none) [UInt8.ofNat (Int.toNat 2)] := Own.whole (Nat.le_refl _) (by rw [hgetk, ← hkind]; rfl) rfl rfl
    refine (refNums_spec _ [ten] _ (get_vs (by rw [hgetk]; rfl) rfl rfl) (by simp)).mono ?_
    rintro r2 H2 ⟨o2, k2⟩
    have hb2 := k2.get (b := H.length) (B := ⟨[.int .u8 2, .int .i64 ten, .str ikey, .str ival, .int .u32 ifl, .int .i64 idue, .int .u64 iuniq, .str key, .int .u8 why, .int .i64 to, .bool prim], 0, .full⟩) (by rw [hget0]; rfl) (by simp)
    have hl2 := k2.len
    simp only [List.length_append, List.length_cons, List.length_nil] at hl2
    have oo := o1.keep0 k2
    have nl := numsL_len [ten]
    simp only [List.length_cons, List.length_nil] at nl
    repeat' (first | simp only [go_sem, Nat.reduceLT, Nat.reduceEqDiff, Nat.reduceAdd, Nat.reduceMul, Nat.reduceSub, Nat.reduceLeDiff, Int.reduceToNat, Int.reduceNeg, Int.reduceLT, Int.reduceLE, Int.reduceEq, reduceCtorEq, Int.natCast_zero, Int.natCast_one, Int.cast_ofNat_Int, Bool.not_not, false_eq_decide, true_eq_decide, hread0, hreadk, read_cons0, read_consk, astore_h0, astore_hk, hget0, hgetk, hset0, hsetk, hlen, hcat, Nat.add_assoc, Nat.add_zero, Nat.zero_add, List.length_append, and_true, true_and, AV.flat, hb2, get_app hb2, read_get hb2, read_app hb2, *, -hK, -hkind, -n1, -s1, -o1, -o2, -k2, -oo, -nl] | with_reducible refine IfB_dec (fun h => ?_) (fun h => ?_) | with_reducible refine Guard_dec (fun h => ?_) (fun h => ?_) | with_reducible refine Guard_ndec (fun h => ?_) (fun h => ?_) | with_reducible refine Guard_not (fun h => ?_) (fun h => ?_) | with_reducible refine IfB_ndec (fun h => ?_) (fun h => ?_) | with_reducible refine IfB_not (fun h => ?_) (fun h => ?_) | with_reducible refine Guard_split (fun h => ?_) (fun h => ?_) | with_reducible refine IfB_split (fun h => ?_) (fun h => ?_))
    refine append_gr (m := H.length + 1) oo se30 az5 td5 rfl (o2.bs.src tk30) (by simp only [List.length_cons, List.length_nil]; omega) (by omega) ?_
    intro r3 H3 g3
    have hb3 := g3.keep.get hb2 (oo.ne (by omega))
    have hl3 := g3.keep.len
    have o3 := g3.own
    have k3 : Keep none H H3 := g3.keep0 ((Keep.app none H _).trans k2) (fun b hb => by have := oo.ge hb; omega)
    clear g3 oo o1 o2 k2 hb2
    rw [n1] at o3
    repeat' (first | simp only [go_sem, Nat.reduceLT, Nat.reduceEqDiff, Nat.reduceAdd, Nat.reduceMul, Nat.reduceSub, Nat.reduceLeDiff, Int.reduceToNat, Int.reduceNeg, Int.reduceLT, Int.reduceLE, Int.reduceEq, reduceCtorEq, Int.natCast_zero, Int.natCast_one, Int.cast_ofNat_Int, Bool.not_not, false_eq_decide, true_eq_decide, hread0, hreadk, read_cons0, read_consk, astore_h0, astore_hk, hget0, hgetk, hset0, hsetk, hlen, hcat, Nat.add_assoc, Nat.add_zero, Nat.zero_add, List.length_append, and_true, true_and, AV.flat, hb3, get_app hb3, read_get hb3, read_app hb3, *, -hK, -hkind, -n1, -s1, -o3, -k3, -nl, -sx, -hwhy, -tl] | refine WC.call (sx _) ?_ | with_reducible refine IfB_dec (fun h => ?_) (fun h => ?_) | with_reducible refine Guard_dec (fun h => ?_) (fun h => ?_) | with_reducible refine Guard_ndec (fun h => ?_) (fun h => ?_) | with_reducible refine Guard_not (fun h => ?_) (fun h => ?_) | with_reducible refine IfB_ndec (fun h => ?_) (fun h => ?_) | with_reducible refine IfB_not (fun h => ?_) (fun h => ?_) | with_reducible refine Guard_split (fun h => ?_) (fun h => ?_) | with_reducible refine IfB_split (fun h => ?_) (fun h => ?_))
    refine append_gr (m := H.length + 1) o3 se30 az5 td5 rfl (u8_src tk30) (by simp; omega) (by omega) ?_
    intro r4 H4 g4
    have hb4 := g4.keep.get hb3 (o3.ne (by omega))
    have k4 := g4.keep0 k3 (fun b hb => by have := o3.ge hb; omega)
    have o4 := g4.own
    have hl4 := k4.len
    repeat' (first | simp only [go_sem, Nat.reduceLT, Nat.reduceEqDiff, Nat.reduceAdd, Nat.reduceMul, Nat.reduceSub, Nat.reduceLeDiff, Int.reduceToNat, Int.reduceNeg, Int.reduceLT, Int.reduceLE, Int.reduceEq, reduceCtorEq, Int.natCast_zero, Int.natCast_one, Int.cast_ofNat_Int, Bool.not_not, false_eq_decide, true_eq_decide, hread0, hreadk, read_cons0, read_consk, astore_h0, astore_hk, hget0, hgetk, hset0, hsetk, hlen, hcat, Nat.add_assoc, Nat.add_zero, Nat.zero_add, List.length_append, and_true, true_and, AV.flat, hb4, get_app hb4, read_get hb4, read_app hb4, *, -hK, -hkind, -n1, -s1, -o3, -k3, -nl, -sx, -hwhy, -tl, -k4, -o4] | with_reducible refine IfB_dec (fun h => ?_) (fun h => ?_) | with_reducible refine Guard_dec (fun h => ?_) (fun h => ?_) | with_reducible refine Guard_ndec (fun h => ?_) (fun h => ?_) | with_reducible refine Guard_not (fun h => ?_) (fun h => ?_) | with_reducible refine IfB_ndec (fun h => ?_) (fun h => ?_) | with_reducible refine IfB_not (fun h => ?_) (fun h => ?_) | with_reducible refine Guard_split (fun h => ?_) (fun h => ?_) | with_reducible refine IfB_split (fun h => ?_) (fun h => ?_))
    have kb : Bs (H4 ++ [(⟨[.int .u8 why], 1, .full⟩ : Blk)]) (.sl H4.length 0 1 none) [UInt8.ofNat why.toNat] := get_vs (by rw [hget0, hwhy]; rfl) rfl rfl
    refine append_gr (m := H.length + 1) (o4.keep0 (Keep.app none H4 [(⟨[.int .u8 why], 1, .full⟩ : Blk)])) se30 az5 td5 rfl (kb.src tk30) (by simp; omega) (by have := g4.keep.len; simp; omega) ?_
    intro r5 H5 g5
    have k5 := g5.keep0 (k4.trans (Keep.app none H4 _)) (fun b hb => by have := o4.ge hb; omega)
    repeat' (first | simp only [go_sem, Nat.reduceLT, Nat.reduceEqDiff, Nat.reduceAdd, Nat.reduceMul, Nat.reduceSub, Nat.reduceLeDiff, Int.reduceToNat, Int.reduceNeg, Int.reduceLT, Int.reduceLE, Int.reduceEq, reduceCtorEq, Int.natCast_zero, Int.natCast_one, Int.cast_ofNat_Int, Bool.not_not, false_eq_decide, true_eq_decide, hread0, hreadk, read_cons0, read_consk, astore_h0, astore_hk, hget0, hgetk, hset0, hsetk, hlen, hcat, Nat.add_assoc, Nat.add_zero, Nat.zero_add, List.length_append, and_true, true_and, AV.flat, *, -hK, -hkind, -n1, -s1, -o3, -k3, -nl, -sx, -hwhy, -tl, -k4, -o4, -k5] | with_reducible refine IfB_dec (fun h => ?_) (fun h => ?_) | with_reducible refine Guard_dec (fun h => ?_) (fun h => ?_) | with_reducible refine Guard_ndec (fun h => ?_) (fun h => ?_) | with_reducible refine Guard_not (fun h => ?_) (fun h => ?_) | with_reducible refine IfB_ndec (fun h => ?_) (fun h => ?_) | with_reducible refine IfB_not (fun h => ?_) (fun h => ?_) | with_reducible refine Guard_split (fun h => ?_) (fun h => ?_) | with_reducible refine IfB_split (fun h => ?_) (fun h => ?_))
    have oE := g5.own.mono (m' := H.length) (by omega)
    refine hK _ _ ⟨?_, k5⟩
    refine cast (congrArg (Ob H.length _ _) ?_) oE
    simp
  have k1 : kind = 1 := by omega
  subst k1
  clear hwhy
  simp only [Chg.putL, Int.reduceEq, if_true, if_false] at hK h4
  have sx := fun J => itemBytes_spec ikey ival ifl idue iuniq (by omega) (by omega) (by omega) (by omega) (by omega) J
  have tl : (itemL ikey ival ifl idue iuniq).length ≤ 1000 := by
    have t1 := textL_len (s := ikey) (by omega)
    have t2 := textL_len (s := ival) (by omega)
    have t3 := small_len10 (n := ifl.toNat) (by omega)
    have t4 := small_len10 (n := idue.toNat) (by omega)
    have t5 := small_len10 (n := iuniq.toNat) (by omega)
    simp only [itemL, List.length_append]; omega
  refine WC_of_body hT Try.func59 rfl (by simp [Try.f59]) (by simp [Try.f59]) (wx_sound hT _ ?_)
  simp only [Try.f59]
  repeat' (first | simp only [go_sem, Nat.reduceLT, Nat.reduceEqDiff, Nat.reduceAdd, Nat.reduceMul, Nat.reduceSub, Nat.reduceLeDiff, Int.reduceToNat, Int.reduceNeg, Int.reduceLT, Int.reduceLE, Int.reduceEq, reduceCtorEq, Int.natCast_zero, Int.natCast_one, Int.cast_ofNat_Int, Bool.not_not, false_eq_decide, true_eq_decide, hread0, hreadk, read_cons0, read_consk, astore_h0, astore_hk, hget0, hgetk, hset0, hsetk, hlen, hcat, Nat.add_assoc, Nat.add_zero, Nat.zero_add, List.length_append, and_true, true_and, AV.flat, *, -hK, -hkind, -n1, -s1, -sx, -tl] | with_reducible refine IfB_dec (fun h => ?_) (fun h => ?_) | with_reducible refine Guard_dec (fun h => ?_) (fun h => ?_) | with_reducible refine Guard_ndec (fun h => ?_) (fun h => ?_) | with_reducible refine Guard_not (fun h => ?_) (fun h => ?_) | with_reducible refine IfB_ndec (fun h => ?_) (fun h => ?_) | with_reducible refine IfB_not (fun h => ?_) (fun h => ?_) | with_reducible refine Guard_split (fun h => ?_) (fun h => ?_) | with_reducible refine IfB_split (fun h => ?_) (fun h => ?_))
  have o1 : Ob (H.length + 1) (H ++ [(⟨[.int .u8 1, .int .i64 ten, .str ikey, .str ival, .int .u32 ifl, .int .i64 idue, .int .u64 iuniq, .str key, .int .u8 why, .int .i64 to, .bool prim], 0, .full⟩ : Blk), ⟨[.int .u8 1], 1, .full⟩, ⟨[.int .i64 ten], 1, .full⟩]) (.sl (H.length + 1) 0 1 none) [UInt8.ofNat (Int.toNat 1)] := Own.whole (Nat.le_refl _) (by rw [hgetk, ← hkind]; rfl) rfl rfl
  refine (refNums_spec _ [ten] _ (get_vs (by rw [hgetk]; rfl) rfl rfl) (by simp)).mono ?_
  rintro r2 H2 ⟨o2, k2⟩
  have hb2 := k2.get (b := H.length) (B := ⟨[.int .u8 1, .int .i64 ten, .str ikey, .str ival, .int .u32 ifl, .int .i64 idue, .int .u64 iuniq, .str key, .int .u8 why, .int .i64 to, .bool prim], 0, .full⟩) (by rw [hget0]; rfl) (by simp)
  have hl2 := k2.len
  simp only [List.length_append, List.length_cons, List.length_nil] at hl2
  have oo := o1.keep0 k2
  have nl := numsL_len [ten]
  simp only [List.length_cons, List.length_nil] at nl
  repeat' (first | simp only [go_sem, Nat.reduceLT, Nat.reduceEqDiff, Nat.reduceAdd, Nat.reduceMul, Nat.reduceSub, Nat.reduceLeDiff, Int.reduceToNat, Int.reduceNeg, Int.reduceLT, Int.reduceLE, Int.reduceEq, reduceCtorEq, Int.natCast_zero, Int.natCast_one, Int.cast_ofNat_Int, Bool.not_not, false_eq_decide, true_eq_decide, hread0, hreadk, read_cons0, read_consk, astore_h0, astore_hk, hget0, hgetk, hset0, hsetk, hlen, hcat, Nat.add_assoc, Nat.add_zero, Nat.zero_add, List.length_append, and_true, true_and, AV.flat, hb2, get_app hb2, read_get hb2, read_app hb2, *, -hK, -hkind, -n1, -s1, -o1, -o2, -k2, -oo, -nl] | with_reducible refine IfB_dec (fun h => ?_) (fun h => ?_) | with_reducible refine Guard_dec (fun h => ?_) (fun h => ?_) | with_reducible refine Guard_ndec (fun h => ?_) (fun h => ?_) | with_reducible refine Guard_not (fun h => ?_) (fun h => ?_) | with_reducible refine IfB_ndec (fun h => ?_) (fun h => ?_) | with_reducible refine IfB_not (fun h => ?_) (fun h => ?_) | with_reducible refine Guard_split (fun h => ?_) (fun h => ?_) | with_reducible refine IfB_split (fun h => ?_) (fun h => ?_))
  refine append_gr (m := H.length + 1) oo se30 az5 td5 rfl (o2.bs.src tk30) (by simp only [List.length_cons, List.length_nil]; omega) (by omega) ?_
  intro r3 H3 g3
  have hb3 := g3.keep.get hb2 (oo.ne (by omega))
  have hl3 := g3.keep.len
  have o3 := g3.own
  have k3 : Keep none H H3 := g3.keep0 ((Keep.app none H _).trans k2) (fun b hb => by have := oo.ge hb; omega)
  clear g3 oo o1 o2 k2 hb2
  rw [n1] at o3
  repeat' (first | simp only [go_sem, Nat.reduceLT, Nat.reduceEqDiff, Nat.reduceAdd, Nat.reduceMul, Nat.reduceSub, Nat.reduceLeDiff, Int.reduceToNat, Int.reduceNeg, Int.reduceLT, Int.reduceLE, Int.reduceEq, reduceCtorEq, Int.natCast_zero, Int.natCast_one, Int.cast_ofNat_Int, Bool.not_not, false_eq_decide, true_eq_decide, hread0, hreadk, read_cons0, read_consk, astore_h0, astore_hk, hget0, hgetk, hset0, hsetk, hlen, hcat, Nat.add_assoc, Nat.add_zero, Nat.zero_add, List.length_append, and_true, true_and, AV.flat, hb3, get_app hb3, read_get hb3, read_app hb3, *, -hK, -hkind, -n1, -s1, -o3, -k3, -nl, -sx, -tl] | refine WC.call (sx _) ?_ | with_reducible refine IfB_dec (fun h => ?_) (fun h => ?_) | with_reducible refine Guard_dec (fun h => ?_) (fun h => ?_) | with_reducible refine Guard_ndec (fun h => ?_) (fun h => ?_) | with_reducible refine Guard_not (fun h => ?_) (fun h => ?_) | with_reducible refine IfB_ndec (fun h => ?_) (fun h => ?_) | with_reducible refine IfB_not (fun h => ?_) (fun h => ?_) | with_reducible refine Guard_split (fun h => ?_) (fun h => ?_) | with_reducible refine IfB_split (fun h => ?_) (fun h => ?_))
  refine append_gr (m := H.length + 1) o3 se30 az5 td5 rfl (u8_src tk30) (by simp; omega) (by omega) ?_
  intro r4 H4 g4
  have k4 := g4.keep0 k3 (fun b hb => by have := o3.ge hb; omega)
  repeat' (first | simp only [go_sem, Nat.reduceLT, Nat.reduceEqDiff, Nat.reduceAdd, Nat.reduceMul, Nat.reduceSub, Nat.reduceLeDiff, Int.reduceToNat, Int.reduceNeg, Int.reduceLT, Int.reduceLE, Int.reduceEq, reduceCtorEq, Int.natCast_zero, Int.natCast_one, Int.cast_ofNat_Int, Bool.not_not, false_eq_decide, true_eq_decide, hread0, hreadk, read_cons0, read_consk, astore_h0, astore_hk, hget0, hgetk, hset0, hsetk, hlen, hcat, Nat.add_assoc, Nat.add_zero, Nat.zero_add, List.length_append, and_true, true_and, AV.flat, *, -hK, -hkind, -n1, -s1, -o3, -k3, -nl, -sx, -tl, -k4] | with_reducible refine IfB_dec (fun h => ?_) (fun h => ?_) | with_reducible refine Guard_dec (fun h => ?_) (fun h => ?_) | with_reducible refine Guard_ndec (fun h => ?_) (fun h => ?_) | with_reducible refine Guard_not (fun h => ?_) (fun h => ?_) | with_reducible refine IfB_ndec (fun h => ?_) (fun h => ?_) | with_reducible refine IfB_not (fun h => ?_) (fun h => ?_) | with_reducible refine Guard_split (fun h => ?_) (fun h => ?_) | with_reducible refine IfB_split (fun h => ?_) (fun h => ?_))
  have oE := g4.own.mono (m' := H.length) (by omega)
  refine hK _ _ ⟨?_, k4⟩
  refine cast (congrArg (Ob H.length _ _) ?_) oE
  simp [itemL]
open Go Go.Proofs Go.Proofs.PI
/-! ### the document: changes as bytes -/
theorem putL_len {c : Chg} (ho : c.Ok) (hm : c.mayB = true) : c.putL.length ≤ 1000 := by
  obtain ⟨h1, h2, h3, h4⟩ := may_facts ho hm
  have hif := ho.ifl
  have hu := ho.iuniq
  have s1 := small_len10 (n := c.ten.toNat) (by omega)
  have s2 := small_len10 (n := c.ifl.toNat) (by omega)
  have s3 := small_len10 (n := c.iuniq.toNat) (by omega)
  unfold Chg.goodP at h4
  unfold Chg.putL
  by_cases k1 : c.kind = 1
  · simp only [k1, if_true] at h4 ⊢
    have t1 := textL_len (s := c.ikey) (by omega)
    have t2 := textL_len (s := c.ival) (by omega)
    have s4 := small_len10 (n := c.idue.toNat) (by omega)
    simp only [List.length_cons, List.length_append]; omega
  by_cases k2 : c.kind = 2
  · simp only [k2, Int.reduceEq, if_true, if_false] at h4 ⊢
    have t1 := textL_len (s := c.key) (by omega)
    simp only [List.length_cons, List.length_append, List.length_nil]; omega
  by_cases k3 : c.kind = 3
  · simp only [k3, Int.reduceEq, if_true, if_false] at h4 ⊢
    simp only [List.length_cons]; omega
  have s5 : (small c.to.toNat).length ≤ 10 := small_len10 (n := c.to.toNat) (by
    simp only [k1, k2, k3, if_false] at h4
    (repeat' split at h4) <;> first | omega | exact h4.elim)
  simp only [k1, k2, k3, if_false]
  repeat' split
  all_goals simp only [List.length_cons, List.length_append, List.length_nil]; omega
theorem refChanges_own (l : List Chg) (hl : l.length ≤ 140737488355328) (ho : ∀ c ∈ l, c.Ok) (H : Heap) : WC Try.prog 31 [chgE.lst l] H fun r H' => (∃ b, r = .tup [b, .int .i64 (changesL l).2] ∧ Ob H.length H' b (changesL l).1) ∧ Keep none H H' := by
  refine WC_of_K fun K hK => ?_
  by_cases h1 : l.length > 4096
  · have i1 : (l.length : Int) > 4096 := by omega
    rw [show changesL l = ([], 4) by unfold changesL; rw [if_pos h1]] at hK
    clear h1
    refine WC_of_body hT Try.func31 rfl (by simp [Try.f31]) (by simp [Try.f31]) (wx_sound hT _ ?_)
    simp only [Try.f31]
    repeat' (first | simp only [go_sem, Nat.reduceLT, Nat.reduceEqDiff, Nat.reduceAdd, Nat.reduceMul, Nat.reduceSub, Nat.reduceLeDiff, Int.reduceToNat, Int.reduceNeg, Int.reduceLT, Int.reduceLE, Int.reduceEq, reduceCtorEq, Int.natCast_zero, Int.natCast_one, Int.cast_ofNat_Int, Bool.not_not, false_eq_decide, true_eq_decide, hread0, hreadk, read_cons0, read_consk, astore_h0, astore_hk, hget0, hgetk, hset0, hsetk, hlen, hcat, Nat.add_assoc, Nat.add_zero, Nat.zero_add, List.length_append, and_true, true_and, AV.flat, *, -hK] | with_reducible refine IfB_dec (fun h => ?_) (fun h => ?_) | with_reducible refine Guard_dec (fun h => ?_) (fun h => ?_) | with_reducible refine Guard_ndec (fun h => ?_) (fun h => ?_) | with_reducible refine Guard_not (fun h => ?_) (fun h => ?_) | with_reducible refine IfB_ndec (fun h => ?_) (fun h => ?_) | with_reducible refine IfB_not (fun h => ?_) (fun h => ?_) | with_reducible refine Guard_split (fun h => ?_) (fun h => ?_) | with_reducible refine IfB_split (fun h => ?_) (fun h => ?_))
    exact hK _ _ ⟨⟨_, rfl, Ob.nils _ _⟩, Keep.refl _ _⟩
  have i1 : ¬ (l.length : Int) > 4096 := by omega
  refine WC_of_body hT Try.func31 rfl (by simp [Try.f31]) (by simp [Try.f31]) (wx_sound hT _ ?_)
  simp only [Try.f31]
  repeat' (first | simp only [go_sem, Nat.reduceLT, Nat.reduceEqDiff, Nat.reduceAdd, Nat.reduceMul, Nat.reduceSub, Nat.reduceLeDiff, Int.reduceToNat, Int.reduceNeg, Int.reduceLT, Int.reduceLE, Int.reduceEq, reduceCtorEq, Int.natCast_zero, Int.natCast_one, Int.cast_ofNat_Int, Bool.not_not, false_eq_decide, true_eq_decide, hread0, hreadk, read_cons0, read_consk, astore_h0, astore_hk, hget0, hgetk, hset0, hsetk, hlen, hcat, Nat.add_assoc, Nat.add_zero, Nat.zero_add, List.length_append, and_true, true_and, AV.flat, *, -hK, -h1] | with_reducible refine IfB_dec (fun h => ?_) (fun h => ?_) | with_reducible refine Guard_dec (fun h => ?_) (fun h => ?_) | with_reducible refine Guard_ndec (fun h => ?_) (fun h => ?_) | with_reducible refine Guard_not (fun h => ?_) (fun h => ?_) | with_reducible refine IfB_ndec (fun h => ?_) (fun h => ?_) | with_reducible refine IfB_not (fun h => ?_) (fun h => ?_) | with_reducible refine Guard_split (fun h => ?_) (fun h => ?_) | with_reducible refine IfB_split (fun h => ?_) (fun h => ?_))
  refine (refNums_spec _ [(l.length : Int)] _ (get_vs (by rw [hget0]; rfl) rfl rfl) (by simp)).mono ?_
  rintro r2 H2 ⟨o2, k2⟩
  have hn := num1 (x := (l.length : Int)) (by omega) (by omega)
  have hs10 := small_len10 (n := l.length) (by omega)
  rw [hn, Int.toNat_natCast] at o2
  have kS : Keep none H H2 := (Keep.app none H _).trans k2
  have oS := o2.mono (m' := H.length) (by simp)
  clear hn k2 o2
  repeat' (first | simp only [go_sem, Nat.reduceLT, Nat.reduceEqDiff, Nat.reduceAdd, Nat.reduceMul, Nat.reduceSub, Nat.reduceLeDiff, Int.reduceToNat, Int.reduceNeg, Int.reduceLT, Int.reduceLE, Int.reduceEq, reduceCtorEq, Int.natCast_zero, Int.natCast_one, Int.cast_ofNat_Int, Bool.not_not, false_eq_decide, true_eq_decide, hread0, hreadk, read_cons0, read_consk, astore_h0, astore_hk, hget0, hgetk, hset0, hsetk, hlen, hcat, Nat.add_assoc, Nat.add_zero, Nat.zero_add, List.length_append, and_true, true_and, AV.flat, *, -hK, -h1, -hs10, -oS, -kS] | with_reducible refine IfB_dec (fun h => ?_) (fun h => ?_) | with_reducible refine Guard_dec (fun h => ?_) (fun h => ?_) | with_reducible refine Guard_ndec (fun h => ?_) (fun h => ?_) | with_reducible refine Guard_not (fun h => ?_) (fun h => ?_) | with_reducible refine IfB_ndec (fun h => ?_) (fun h => ?_) | with_reducible refine IfB_not (fun h => ?_) (fun h => ?_) | with_reducible refine Guard_split (fun h => ?_) (fun h => ?_) | with_reducible refine IfB_split (fun h => ?_) (fun h => ?_))
  refine WX_loopS [0, 4] (fun k fr' H' => ∃ i : Nat, k = l.length - i ∧ i ≤ l.length ∧ fr'.get 5 = .int .i64 i ∧ (l.take i).all Chg.mayB = true ∧ H' = H2) l.length ⟨0, rfl, by omega, by simp only [go_sem, Nat.reduceLT, Nat.reduceEqDiff, Nat.reduceAdd, Nat.reduceMul, Nat.reduceSub, Nat.reduceLeDiff, Int.reduceToNat, Int.reduceNeg, Int.reduceLT, Int.reduceLE, Int.reduceEq, reduceCtorEq]; rfl, by simp, rfl⟩ ?_
  rintro k fr' H1 A R hA hs hg hR ⟨i, rfl, hi, f14, hall, rfl⟩
  have s0 := hg 0 (by decide)
  have s4 := hg 4 (by decide)
  simp only [Fr.get_put, Fr.get_init, List.getD_cons_zero, List.getD_cons_succ, Nat.reduceEqDiff, if_true, if_false] at s0 s4
  refine wx_sound hT _ ?_
  by_cases hlt : i < l.length
  · have e1 := at_enc (E := chgE) (T := T) (k := .i64) se56 hlt rfl
    have e3 := inc_id hlt hl
    have hlti : (i : Int) < l.length := by omega
    have sm := fun J => refMay_spec l[i] J
    unfold Chg.av at sm
    rw [chgE_cells] at e1
    cases hm : l[i].mayB with
    | true =>
      rw [hm] at sm
      repeat' (first | simp only [go_sem, Nat.reduceLT, Nat.reduceEqDiff, Nat.reduceAdd, Nat.reduceMul, Nat.reduceSub, Nat.reduceLeDiff, Int.reduceToNat, Int.reduceNeg, Int.reduceLT, Int.reduceLE, Int.reduceEq, reduceCtorEq, Int.natCast_zero, Int.natCast_one, Int.cast_ofNat_Int, Bool.not_not, false_eq_decide, true_eq_decide, hread0, hreadk, read_cons0, read_consk, astore_h0, astore_hk, hget0, hgetk, hset0, hsetk, hlen, hcat, Nat.add_assoc, Nat.add_zero, Nat.zero_add, List.length_append, and_true, true_and, AV.flat, *, -hK, -hall, -sm, -hm, -h1, -hs10, -oS, -kS] | refine WC.call (sm _) ?_ | with_reducible refine IfB_dec (fun h => ?_) (fun h => ?_) | with_reducible refine Guard_dec (fun h => ?_) (fun h => ?_) | with_reducible refine Guard_ndec (fun h => ?_) (fun h => ?_) | with_reducible refine Guard_not (fun h => ?_) (fun h => ?_) | with_reducible refine IfB_ndec (fun h => ?_) (fun h => ?_) | with_reducible refine IfB_not (fun h => ?_) (fun h => ?_) | with_reducible refine Guard_split (fun h => ?_) (fun h => ?_) | with_reducible refine IfB_split (fun h => ?_) (fun h => ?_))
      exact hR _ _ (by (repeat (first | exact hs | refine hA _ _ _ (by decide) ?_))) (l.length - (i + 1)) (by omega) ⟨i + 1, rfl, by omega, by simp only [go_sem, Nat.reduceLT, Nat.reduceEqDiff, Nat.reduceAdd, Nat.reduceMul, Nat.reduceSub, Nat.reduceLeDiff, Int.reduceToNat, Int.reduceNeg, Int.reduceLT, Int.reduceLE, Int.reduceEq, reduceCtorEq], by rw [may_step hlt, hall, hm]; rfl, rfl⟩
    | false =>
      rw [hm] at sm
      have hf : l.all Chg.mayB = false := by rw [List.all_eq_false]; exact ⟨_, List.getElem_mem hlt, by simp [hm]⟩
      rw [show changesL l = ([], 8) by unfold changesL; rw [if_neg h1, if_pos hf]] at hK
      repeat' (first | simp only [go_sem, Nat.reduceLT, Nat.reduceEqDiff, Nat.reduceAdd, Nat.reduceMul, Nat.reduceSub, Nat.reduceLeDiff, Int.reduceToNat, Int.reduceNeg, Int.reduceLT, Int.reduceLE, Int.reduceEq, reduceCtorEq, Int.natCast_zero, Int.natCast_one, Int.cast_ofNat_Int, Bool.not_not, false_eq_decide, true_eq_decide, hread0, hreadk, read_cons0, read_consk, astore_h0, astore_hk, hget0, hgetk, hset0, hsetk, hlen, hcat, Nat.add_assoc, Nat.add_zero, Nat.zero_add, List.length_append, and_true, true_and, AV.flat, *, -hK, -hall, -sm, -hm, -h1, -hf, -hs10, -oS, -kS] | refine WC.call (sm _) ?_ | with_reducible refine IfB_dec (fun h => ?_) (fun h => ?_) | with_reducible refine Guard_dec (fun h => ?_) (fun h => ?_) | with_reducible refine Guard_ndec (fun h => ?_) (fun h => ?_) | with_reducible refine Guard_not (fun h => ?_) (fun h => ?_) | with_reducible refine IfB_ndec (fun h => ?_) (fun h => ?_) | with_reducible refine IfB_not (fun h => ?_) (fun h => ?_) | with_reducible refine Guard_split (fun h => ?_) (fun h => ?_) | with_reducible refine IfB_split (fun h => ?_) (fun h => ?_))
      exact hK _ _ ⟨⟨_, rfl, Ob.nils _ _⟩, kS⟩
  have hlti : ¬ (i : Int) < l.length := by omega
  have hin : i = l.length := by omega
  rw [hin, List.take_length] at hall
  have hmay : ∀ c ∈ l, c.mayB = true := List.all_eq_true.1 hall
  clear hR hA hs hg hin
  repeat' (first | simp only [go_sem, Nat.reduceLT, Nat.reduceEqDiff, Nat.reduceAdd, Nat.reduceMul, Nat.reduceSub, Nat.reduceLeDiff, Int.reduceToNat, Int.reduceNeg, Int.reduceLT, Int.reduceLE, Int.reduceEq, reduceCtorEq, Int.natCast_zero, Int.natCast_one, Int.cast_ofNat_Int, Bool.not_not, false_eq_decide, true_eq_decide, hread0, hreadk, read_cons0, read_consk, astore_h0, astore_hk, hget0, hgetk, hset0, hsetk, hlen, hcat, Nat.add_assoc, Nat.add_zero, Nat.zero_add, List.length_append, and_true, true_and, AV.flat, *, -hK, -hall, -h1, -hmay, -hs10, -oS, -kS] | with_reducible refine IfB_dec (fun h => ?_) (fun h => ?_) | with_reducible refine Guard_dec (fun h => ?_) (fun h => ?_) | with_reducible refine Guard_ndec (fun h => ?_) (fun h => ?_) | with_reducible refine Guard_not (fun h => ?_) (fun h => ?_) | with_reducible refine IfB_ndec (fun h => ?_) (fun h => ?_) | with_reducible refine IfB_not (fun h => ?_) (fun h => ?_) | with_reducible refine Guard_split (fun h => ?_) (fun h => ?_) | with_reducible refine IfB_split (fun h => ?_) (fun h => ?_))
  refine WX_loopS [0] (fun k fr' H' => ∃ (j : Nat) (a : AV), k = l.length - j ∧ j ≤ l.length ∧ fr'.get 6 = .int .i64 j ∧ fr'.get 4 = a ∧ Ob H.length H' a (small l.length ++ (l.take j).flatMap Chg.putL) ∧ (small l.length ++ (l.take j).flatMap Chg.putL).length ≤ 66536 ∧ Keep none H H') l.length ⟨0, r2, rfl, by omega, by simp only [go_sem, Nat.reduceLT, Nat.reduceEqDiff, Nat.reduceAdd, Nat.reduceMul, Nat.reduceSub, Nat.reduceLeDiff, Int.reduceToNat, Int.reduceNeg, Int.reduceLT, Int.reduceLE, Int.reduceEq, reduceCtorEq]; rfl, by simp only [go_sem, Nat.reduceLT, Nat.reduceEqDiff, Nat.reduceAdd, Nat.reduceMul, Nat.reduceSub, Nat.reduceLeDiff, Int.reduceToNat, Int.reduceNeg, Int.reduceLT, Int.reduceLE, Int.reduceEq, reduceCtorEq, s4], by simpa using oS, by simp; omega, kS⟩ ?_
  clear hlti hi f14 oS kS
  rintro k fr' H3 A R hA hs hg hR ⟨j, a, rfl, hj, f28, f6, oa, hle, kk⟩
  have s0 := hg 0 (by decide)
  simp only [Fr.get_put, Fr.get_init, List.getD_cons_zero, List.getD_cons_succ, Nat.reduceEqDiff, if_true, if_false] at s0
  have al := oa.bs.alen tk30
  refine wx_sound hT _ ?_
  by_cases hbig : (small l.length ++ (l.take j).flatMap Chg.putL).length > 65536
  · have hpp := put_part l j
    rw [show changesL l = ([], 3) by unfold changesL; rw [if_neg h1, if_neg (by rw [hall]; simp), if_pos (by simp only [List.length_append] at hbig ⊢; omega)]] at hK
    have ib : ((small l.length ++ (l.take j).flatMap Chg.putL).length : Int) > 65536 := by omega
    have ib2 : ¬ ((small l.length ++ (l.take j).flatMap Chg.putL).length : Int) ≤ 65536 := by omega
    clear hR hle hpp hbig
    generalize (small l.length ++ (l.take j).flatMap Chg.putL) = bb at *
    by_cases hlti : (j : Int) < l.length
    · repeat' (first | simp only [go_sem, Nat.reduceLT, Nat.reduceEqDiff, Nat.reduceAdd, Nat.reduceMul, Nat.reduceSub, Nat.reduceLeDiff, Int.reduceToNat, Int.reduceNeg, Int.reduceLT, Int.reduceLE, Int.reduceEq, reduceCtorEq, Int.natCast_zero, Int.natCast_one, Int.cast_ofNat_Int, Bool.not_not, false_eq_decide, true_eq_decide, hread0, hreadk, read_cons0, read_consk, astore_h0, astore_hk, hget0, hgetk, hset0, hsetk, hlen, hcat, Nat.add_assoc, Nat.add_zero, Nat.zero_add, List.length_append, and_true, true_and, AV.flat, *, -hK, -hall, -h1, -hmay, -hs10, -oa] | with_reducible refine IfB_dec (fun h => ?_) (fun h => ?_) | with_reducible refine Guard_dec (fun h => ?_) (fun h => ?_) | with_reducible refine Guard_ndec (fun h => ?_) (fun h => ?_) | with_reducible refine Guard_not (fun h => ?_) (fun h => ?_) | with_reducible refine IfB_ndec (fun h => ?_) (fun h => ?_) | with_reducible refine IfB_not (fun h => ?_) (fun h => ?_) | with_reducible refine Guard_split (fun h => ?_) (fun h => ?_) | with_reducible refine IfB_split (fun h => ?_) (fun h => ?_))
      exact hK _ _ ⟨⟨_, rfl, Ob.nils _ _⟩, kk⟩
    · repeat' (first | simp only [go_sem, Nat.reduceLT, Nat.reduceEqDiff, Nat.reduceAdd, Nat.reduceMul, Nat.reduceSub, Nat.reduceLeDiff, Int.reduceToNat, Int.reduceNeg, Int.reduceLT, Int.reduceLE, Int.reduceEq, reduceCtorEq, Int.natCast_zero, Int.natCast_one, Int.cast_ofNat_Int, Bool.not_not, false_eq_decide, true_eq_decide, hread0, hreadk, read_cons0, read_consk, astore_h0, astore_hk, hget0, hgetk, hset0, hsetk, hlen, hcat, Nat.add_assoc, Nat.add_zero, Nat.zero_add, List.length_append, and_true, true_and, AV.flat, *, -hK, -hall, -h1, -hmay, -hs10, -oa] | with_reducible refine IfB_dec (fun h => ?_) (fun h => ?_) | with_reducible refine Guard_dec (fun h => ?_) (fun h => ?_) | with_reducible refine Guard_ndec (fun h => ?_) (fun h => ?_) | with_reducible refine Guard_not (fun h => ?_) (fun h => ?_) | with_reducible refine IfB_ndec (fun h => ?_) (fun h => ?_) | with_reducible refine IfB_not (fun h => ?_) (fun h => ?_) | with_reducible refine Guard_split (fun h => ?_) (fun h => ?_) | with_reducible refine IfB_split (fun h => ?_) (fun h => ?_))
      exact hK _ _ ⟨⟨_, rfl, Ob.nils _ _⟩, kk⟩
  by_cases hlt : j < l.length
  rotate_left
  · have hlti : ¬ (j : Int) < l.length := by omega
    have hjn : j = l.length := by omega
    rw [hjn, List.take_length] at oa hle al hbig
    rw [show changesL l = (small l.length ++ l.flatMap Chg.putL, 0) by unfold changesL; rw [if_neg h1, if_neg (by rw [hall]; simp), if_neg (by omega)]] at hK
    have ib : ¬ ((small l.length ++ l.flatMap Chg.putL).length : Int) > 65536 := by omega
    clear hR hbig
    generalize (small l.length ++ l.flatMap Chg.putL) = bb at *
    repeat' (first | simp only [go_sem, Nat.reduceLT, Nat.reduceEqDiff, Nat.reduceAdd, Nat.reduceMul, Nat.reduceSub, Nat.reduceLeDiff, Int.reduceToNat, Int.reduceNeg, Int.reduceLT, Int.reduceLE, Int.reduceEq, reduceCtorEq, Int.natCast_zero, Int.natCast_one, Int.cast_ofNat_Int, Bool.not_not, false_eq_decide, true_eq_decide, hread0, hreadk, read_cons0, read_consk, astore_h0, astore_hk, hget0, hgetk, hset0, hsetk, hlen, hcat, Nat.add_assoc, Nat.add_zero, Nat.zero_add, List.length_append, and_true, true_and, AV.flat, *, -hK, -hall, -h1, -hmay, -hs10, -hle, -oa, -hjn] | with_reducible refine IfB_dec (fun h => ?_) (fun h => ?_) | with_reducible refine Guard_dec (fun h => ?_) (fun h => ?_) | with_reducible refine Guard_ndec (fun h => ?_) (fun h => ?_) | with_reducible refine Guard_not (fun h => ?_) (fun h => ?_) | with_reducible refine IfB_ndec (fun h => ?_) (fun h => ?_) | with_reducible refine IfB_not (fun h => ?_) (fun h => ?_) | with_reducible refine Guard_split (fun h => ?_) (fun h => ?_) | with_reducible refine IfB_split (fun h => ?_) (fun h => ?_))
    exact hK _ _ ⟨⟨_, rfl, oa⟩, kk⟩
  have hlti : (j : Int) < l.length := by omega
  have e1 := at_enc (E := chgE) (T := T) (k := .i64) se56 hlt rfl
  have e3 := inc_id hlt hl
  rw [chgE_cells] at e1
  have os := fun J => one_spec l[j] (ho _ (List.getElem_mem hlt)) (hmay _ (List.getElem_mem hlt)) J
  have pl := putL_len (ho _ (List.getElem_mem hlt)) (hmay _ (List.getElem_mem hlt))
  unfold Chg.av at os
  have back : ∀ fr2 r4 H4, A fr2 → Ob H.length H4 r4 (small l.length ++ (l.take (j + 1)).flatMap Chg.putL) → Keep none H H4 → fr2.get 6 = .int .i64 ((j + 1 : Nat) : Int) → fr2.get 4 = r4 → R fr2 H4 := fun fr2 r4 H4 ha o4 k4 h1 h2 => hR fr2 H4 ha (l.length - (j + 1)) (by omega) ⟨j + 1, r4, rfl, by omega, h1, h2, o4, by rw [put_step hlt]; simp only [List.length_append] at hbig ⊢; omega, k4⟩
  rw [put_step hlt, ← List.append_assoc] at back
  have ib : ((small l.length ++ (l.take j).flatMap Chg.putL).length : Int) ≤ 65536 := by omega
  clear hR
  generalize (small l.length ++ (l.take j).flatMap Chg.putL) = bb at *
  repeat' (first | simp only [go_sem, Nat.reduceLT, Nat.reduceEqDiff, Nat.reduceAdd, Nat.reduceMul, Nat.reduceSub, Nat.reduceLeDiff, Int.reduceToNat, Int.reduceNeg, Int.reduceLT, Int.reduceLE, Int.reduceEq, reduceCtorEq, Int.natCast_zero, Int.natCast_one, Int.cast_ofNat_Int, Bool.not_not, false_eq_decide, true_eq_decide, hread0, hreadk, read_cons0, read_consk, astore_h0, astore_hk, hget0, hgetk, hset0, hsetk, hlen, hcat, Nat.add_assoc, Nat.add_zero, Nat.zero_add, List.length_append, and_true, true_and, AV.flat, *, -hK, -hall, -h1, -hmay, -hs10, -hle, -oa, -os, -pl, -back, -hbig] | refine WC.call (os _) ?_ | with_reducible refine IfB_dec (fun h => ?_) (fun h => ?_) | with_reducible refine Guard_dec (fun h => ?_) (fun h => ?_) | with_reducible refine Guard_ndec (fun h => ?_) (fun h => ?_) | with_reducible refine Guard_not (fun h => ?_) (fun h => ?_) | with_reducible refine IfB_ndec (fun h => ?_) (fun h => ?_) | with_reducible refine IfB_not (fun h => ?_) (fun h => ?_) | with_reducible refine Guard_split (fun h => ?_) (fun h => ?_) | with_reducible refine IfB_split (fun h => ?_) (fun h => ?_))
  refine append_gr (m := H.length) oa se30 az5 td5 rfl (u8_src tk30) (by omega) kk.len ?_
  intro r4 H4 g4
  have k4 := g4.keep0 kk (fun b hb => oa.ge hb)
  repeat' (first | simp only [go_sem, Nat.reduceLT, Nat.reduceEqDiff, Nat.reduceAdd, Nat.reduceMul, Nat.reduceSub, Nat.reduceLeDiff, Int.reduceToNat, Int.reduceNeg, Int.reduceLT, Int.reduceLE, Int.reduceEq, reduceCtorEq, Int.natCast_zero, Int.natCast_one, Int.cast_ofNat_Int, Bool.not_not, false_eq_decide, true_eq_decide, hread0, hreadk, read_cons0, read_consk, astore_h0, astore_hk, hget0, hgetk, hset0, hsetk, hlen, hcat, Nat.add_assoc, Nat.add_zero, Nat.zero_add, List.length_append, and_true, true_and, AV.flat, *, -hK, -hall, -h1, -hmay, -hs10, -hle, -oa, -os, -pl, -back, -hbig, -k4] | with_reducible refine IfB_dec (fun h => ?_) (fun h => ?_) | with_reducible refine Guard_dec (fun h => ?_) (fun h => ?_) | with_reducible refine Guard_ndec (fun h => ?_) (fun h => ?_) | with_reducible refine Guard_not (fun h => ?_) (fun h => ?_) | with_reducible refine IfB_ndec (fun h => ?_) (fun h => ?_) | with_reducible refine IfB_not (fun h => ?_) (fun h => ?_) | with_reducible refine Guard_split (fun h => ?_) (fun h => ?_) | with_reducible refine IfB_split (fun h => ?_) (fun h => ?_))
  exact back _ _ _ (by (repeat (first | exact hs | refine hA _ _ _ (by decide) ?_))) g4.own k4 (by simp only [go_sem, Nat.reduceLT, Nat.reduceEqDiff, Nat.reduceAdd, Nat.reduceMul, Nat.reduceSub, Nat.reduceLeDiff, Int.reduceToNat, Int.reduceNeg, Int.reduceLT, Int.reduceLE, Int.reduceEq, reduceCtorEq]) (by simp only [go_sem, Nat.reduceLT, Nat.reduceEqDiff, Nat.reduceAdd, Nat.reduceMul, Nat.reduceSub, Nat.reduceLeDiff, Int.reduceToNat, Int.reduceNeg, Int.reduceLT, Int.reduceLE, Int.reduceEq, reduceCtorEq])
theorem changes_spec (l : List Chg) (hl : l.length ≤ 140737488355328) (ho : ∀ c ∈ l, c.Ok) (H : Heap) : WC Try.prog 30 [chgE.lst l] H fun r H' => r = .tup [Enc.u8.lst (changesL l).1, .int .i64 (changesL l).2] ∧ H' = H :=
  WC_froze (Q := fun r => r = _) ((changes_own l hl ho H).mono fun r H' ⟨⟨b, h1, h2⟩, h3⟩ => ⟨_, h1 ▸ Thaw.tup_row ⟨Thaw.ob h2, .int _ _, trivial⟩, h3, rfl⟩)
theorem refChanges_spec (l : List Chg) (hl : l.length ≤ 140737488355328) (ho : ∀ c ∈ l, c.Ok) (H : Heap) : WC Try.prog 31 [chgE.lst l] H fun r H' => r = .tup [Enc.u8.lst (changesL l).1, .int .i64 (changesL l).2] ∧ H' = H :=
  WC_froze (Q := fun r => r = _) ((refChanges_own l hl ho H).mono fun r H' ⟨⟨b, h1, h2⟩, h3⟩ => ⟨_, h1 ▸ Thaw.tup_row ⟨Thaw.ob h2, .int _ _, trivial⟩, h3, rfl⟩)
open Go Go.Proofs Go.Proofs.PI
theorem heavyC_spec (l : List Chg) (hl : l.length ≤ 140737488355328) (H : Heap) : WC Try.prog 29 [chgE.lst l] H fun r H' => (∃ b, r = .bool b ∧ (b = false → l.length ≤ 5000)) ∧ H' = H := by
  refine WC_of_K fun K hK => ?_
  refine WC_of_body hT Try.func29 rfl (by simp [Try.f29]) (by simp [Try.f29]) (wx_sound hT _ ?_)
  simp only [Try.f29]
  repeat' (first | simp only [go_sem, Nat.reduceLT, Nat.reduceEqDiff, Nat.reduceAdd, Nat.reduceMul, Nat.reduceSub, Nat.reduceLeDiff, Int.reduceToNat, Int.reduceNeg, Int.reduceLT, Int.reduceLE, Int.reduceEq, reduceCtorEq, Int.natCast_zero, Int.natCast_one, Int.cast_ofNat_Int, Bool.not_not, false_eq_decide, true_eq_decide, hread0, hreadk, read_cons0, read_consk, astore_h0, astore_hk, hget0, hgetk, hset0, hsetk, hlen, hcat, Nat.add_assoc, Nat.add_zero, Nat.zero_add, List.length_append, and_true, true_and, AV.flat, *, -hK] | with_reducible refine IfB_dec (fun h => ?_) (fun h => ?_) | with_reducible refine Guard_dec (fun h => ?_) (fun h => ?_) | with_reducible refine Guard_ndec (fun h => ?_) (fun h => ?_) | with_reducible refine Guard_not (fun h => ?_) (fun h => ?_) | with_reducible refine IfB_ndec (fun h => ?_) (fun h => ?_) | with_reducible refine IfB_not (fun h => ?_) (fun h => ?_) | with_reducible refine Guard_split (fun h => ?_) (fun h => ?_) | with_reducible refine IfB_split (fun h => ?_) (fun h => ?_))
  refine WX_loopS [0] (fun k fr' H' => ∃ (i : Nat) (n : Int), k = l.length - i ∧ i ≤ l.length ∧ fr'.get 4 = .int .i64 i ∧ fr'.get 3 = .int .i64 n ∧ H' = H) l.length ⟨0, 0, rfl, by omega, by simp only [go_sem, Nat.reduceLT, Nat.reduceEqDiff, Nat.reduceAdd, Nat.reduceMul, Nat.reduceSub, Nat.reduceLeDiff, Int.reduceToNat, Int.reduceNeg, Int.reduceLT, Int.reduceLE, Int.reduceEq, reduceCtorEq]; rfl, by simp only [go_sem, Nat.reduceLT, Nat.reduceEqDiff, Nat.reduceAdd, Nat.reduceMul, Nat.reduceSub, Nat.reduceLeDiff, Int.reduceToNat, Int.reduceNeg, Int.reduceLT, Int.reduceLE, Int.reduceEq, reduceCtorEq], rfl⟩ ?_
  rintro k fr' H1 A R hA hs hg hR ⟨i, n, rfl, hi, f4, f3, rfl⟩
  have s0 := hg 0 (by decide)
  simp only [Fr.get_put, Fr.get_init, List.getD_cons_zero, List.getD_cons_succ, Nat.reduceEqDiff, if_true, if_false] at s0
  refine wx_sound hT _ ?_
  by_cases hlt : i < l.length ∧ i < 10000
  · obtain ⟨hlt, hl2⟩ := hlt
    have e1 := at_enc (E := chgE) (T := T) (k := .i64) se56 hlt rfl
    have e3 := inc_id hlt hl
    have i1 : (i : Int) < l.length := by omega
    have i2 : (i : Int) < 10000 := by omega
    rw [chgE_cells] at e1
    generalize l[i] = c at *
    obtain ⟨k1, t1, a1, b1, f1, d1, u1, y1, w1, o1, p1⟩ := c
    simp only at e1
    clear hlt hl2
    repeat' (first | simp only [go_sem, Nat.reduceLT, Nat.reduceEqDiff, Nat.reduceAdd, Nat.reduceMul, Nat.reduceSub, Nat.reduceLeDiff, Int.reduceToNat, Int.reduceNeg, Int.reduceLT, Int.reduceLE, Int.reduceEq, reduceCtorEq, Int.natCast_zero, Int.natCast_one, Int.cast_ofNat_Int, Bool.not_not, false_eq_decide, true_eq_decide, hread0, hreadk, read_cons0, read_consk, astore_h0, astore_hk, hget0, hgetk, hset0, hsetk, hlen, hcat, Nat.add_assoc, Nat.add_zero, Nat.zero_add, List.length_append, and_true, true_and, AV.flat, *, -hK] | with_reducible refine IfB_dec (fun h => ?_) (fun h => ?_) | with_reducible refine Guard_dec (fun h => ?_) (fun h => ?_) | with_reducible refine Guard_ndec (fun h => ?_) (fun h => ?_) | with_reducible refine Guard_not (fun h => ?_) (fun h => ?_) | with_reducible refine IfB_ndec (fun h => ?_) (fun h => ?_) | with_reducible refine IfB_not (fun h => ?_) (fun h => ?_) | with_reducible refine Guard_split (fun h => ?_) (fun h => ?_) | with_reducible refine IfB_split (fun h => ?_) (fun h => ?_))
    refine WX_rows hT hmix [(0, none), (1, none), (2, none), (3, none), (4, none), (5, none), (6, none), (7, none), (8, none), (9, none), (10, none), (11, none), (12, none), (13, none), (14, none), (15, none), (16, none), (17, none), (18, none), (19, none), (20, none), (21, none), (22, none), (23, none), (24, none), (25, none), (26, none), (27, none)] (by kernel_rfl) ?_
    simp only [List.append_eq, List.cons_append, List.nil_append]
    repeat' (first | simp only [go_sem, Nat.reduceLT, Nat.reduceEqDiff, Nat.reduceAdd, Nat.reduceMul, Nat.reduceSub, Nat.reduceLeDiff, Int.reduceToNat, Int.reduceNeg, Int.reduceLT, Int.reduceLE, Int.reduceEq, reduceCtorEq, Int.natCast_zero, Int.natCast_one, Int.cast_ofNat_Int, Bool.not_not, false_eq_decide, true_eq_decide, hread0, hreadk, read_cons0, read_consk, astore_h0, astore_hk, hget0, hgetk, hset0, hsetk, hlen, hcat, Nat.add_assoc, Nat.add_zero, Nat.zero_add, List.length_append, and_true, true_and, AV.flat, *, -hK] | with_reducible refine IfB_dec (fun h => ?_) (fun h => ?_) | with_reducible refine Guard_dec (fun h => ?_) (fun h => ?_) | with_reducible refine Guard_ndec (fun h => ?_) (fun h => ?_) | with_reducible refine Guard_not (fun h => ?_) (fun h => ?_) | with_reducible refine IfB_ndec (fun h => ?_) (fun h => ?_) | with_reducible refine IfB_not (fun h => ?_) (fun h => ?_) | with_reducible refine Guard_split (fun h => ?_) (fun h => ?_) | with_reducible refine IfB_split (fun h => ?_) (fun h => ?_))
    exact hR _ _ (by (repeat (first | exact hs | refine hA _ _ _ (by decide) ?_))) (l.length - (i + 1)) (by omega) ⟨i + 1, _, rfl, by omega, by simp only [go_sem, Nat.reduceLT, Nat.reduceEqDiff, Nat.reduceAdd, Nat.reduceMul, Nat.reduceSub, Nat.reduceLeDiff, Int.reduceToNat, Int.reduceNeg, Int.reduceLT, Int.reduceLE, Int.reduceEq, reduceCtorEq], by simp only [go_sem, Nat.reduceLT, Nat.reduceEqDiff, Nat.reduceAdd, Nat.reduceMul, Nat.reduceSub, Nat.reduceLeDiff, Int.reduceToNat, Int.reduceNeg, Int.reduceLT, Int.reduceLE, Int.reduceEq, reduceCtorEq]; rfl, rfl⟩
  by_cases h5 : l.length > 5000
  · have i5 : (l.length : Int) > 5000 := by omega
    by_cases i1 : (i : Int) < l.length
    · have i2 : ¬ (i : Int) < 10000 := by omega
      clear hlt h5
      repeat' (first | simp only [go_sem, Nat.reduceLT, Nat.reduceEqDiff, Nat.reduceAdd, Nat.reduceMul, Nat.reduceSub, Nat.reduceLeDiff, Int.reduceToNat, Int.reduceNeg, Int.reduceLT, Int.reduceLE, Int.reduceEq, reduceCtorEq, Int.natCast_zero, Int.natCast_one, Int.cast_ofNat_Int, Bool.not_not, false_eq_decide, true_eq_decide, hread0, hreadk, read_cons0, read_consk, astore_h0, astore_hk, hget0, hgetk, hset0, hsetk, hlen, hcat, Nat.add_assoc, Nat.add_zero, Nat.zero_add, List.length_append, and_true, true_and, AV.flat, *, -hK] | with_reducible refine IfB_dec (fun h => ?_) (fun h => ?_) | with_reducible refine Guard_dec (fun h => ?_) (fun h => ?_) | with_reducible refine Guard_ndec (fun h => ?_) (fun h => ?_) | with_reducible refine Guard_not (fun h => ?_) (fun h => ?_) | with_reducible refine IfB_ndec (fun h => ?_) (fun h => ?_) | with_reducible refine IfB_not (fun h => ?_) (fun h => ?_) | with_reducible refine Guard_split (fun h => ?_) (fun h => ?_) | with_reducible refine IfB_split (fun h => ?_) (fun h => ?_))
      exact hK _ _ ⟨⟨true, rfl, by simp⟩, rfl⟩
    · clear hlt h5
      repeat' (first | simp only [go_sem, Nat.reduceLT, Nat.reduceEqDiff, Nat.reduceAdd, Nat.reduceMul, Nat.reduceSub, Nat.reduceLeDiff, Int.reduceToNat, Int.reduceNeg, Int.reduceLT, Int.reduceLE, Int.reduceEq, reduceCtorEq, Int.natCast_zero, Int.natCast_one, Int.cast_ofNat_Int, Bool.not_not, false_eq_decide, true_eq_decide, hread0, hreadk, read_cons0, read_consk, astore_h0, astore_hk, hget0, hgetk, hset0, hsetk, hlen, hcat, Nat.add_assoc, Nat.add_zero, Nat.zero_add, List.length_append, and_true, true_and, AV.flat, *, -hK] | with_reducible refine IfB_dec (fun h => ?_) (fun h => ?_) | with_reducible refine Guard_dec (fun h => ?_) (fun h => ?_) | with_reducible refine Guard_ndec (fun h => ?_) (fun h => ?_) | with_reducible refine Guard_not (fun h => ?_) (fun h => ?_) | with_reducible refine IfB_ndec (fun h => ?_) (fun h => ?_) | with_reducible refine IfB_not (fun h => ?_) (fun h => ?_) | with_reducible refine Guard_split (fun h => ?_) (fun h => ?_) | with_reducible refine IfB_split (fun h => ?_) (fun h => ?_))
      exact hK _ _ ⟨⟨true, rfl, by simp⟩, rfl⟩
  have i5 : ¬ (l.length : Int) > 5000 := by omega
  have i1 : ¬ (i : Int) < l.length := by omega
  have h5' : l.length ≤ 5000 := by omega
  clear hlt h5
  repeat' (first | simp only [go_sem, Nat.reduceLT, Nat.reduceEqDiff, Nat.reduceAdd, Nat.reduceMul, Nat.reduceSub, Nat.reduceLeDiff, Int.reduceToNat, Int.reduceNeg, Int.reduceLT, Int.reduceLE, Int.reduceEq, reduceCtorEq, Int.natCast_zero, Int.natCast_one, Int.cast_ofNat_Int, Bool.not_not, false_eq_decide, true_eq_decide, hread0, hreadk, read_cons0, read_consk, astore_h0, astore_hk, hget0, hgetk, hset0, hsetk, hlen, hcat, Nat.add_assoc, Nat.add_zero, Nat.zero_add, List.length_append, and_true, true_and, AV.flat, *, -hK] | with_reducible refine IfB_dec (fun h => ?_) (fun h => ?_) | with_reducible refine Guard_dec (fun h => ?_) (fun h => ?_) | with_reducible refine Guard_ndec (fun h => ?_) (fun h => ?_) | with_reducible refine Guard_not (fun h => ?_) (fun h => ?_) | with_reducible refine IfB_ndec (fun h => ?_) (fun h => ?_) | with_reducible refine IfB_not (fun h => ?_) (fun h => ?_) | with_reducible refine Guard_split (fun h => ?_) (fun h => ?_) | with_reducible refine IfB_split (fun h => ?_) (fun h => ?_))
  all_goals exact hK _ _ ⟨⟨_, rfl, fun _ => h5'⟩, rfl⟩
open Go Go.Proofs Go.Proofs.PI
/-! ### changes are read: the plain part -/
section
variable {num : Nat → RS → Nat × RS} {f : RS → Chg × RS} {b : List UInt8}
theorem ofCh_bad (hnum : ∀ m n r, n < 2 ^ 64 → n ≤ m → num m ⟨small n ++ r, false⟩ = (n, ⟨r, false⟩)) (hf : ∀ (c : Chg) (r : List UInt8), c.Ok → c.mayB = true → f ⟨c.putL ++ r, false⟩ = (c, ⟨r, false⟩)) (hb : b.length ≤ 65536) (h : (ofChgs num f b).2.bad = true) : ofChangesL b = ([], 8) :=
  ofChangesL_none hb fun l hl => by rw [ofChgs_enc hnum hf hl] at h; simp at h
theorem ofCh_none (hnum : ∀ m n r, n < 2 ^ 64 → n ≤ m → num m ⟨small n ++ r, false⟩ = (n, ⟨r, false⟩)) (hf : ∀ (c : Chg) (r : List UInt8), c.Ok → c.mayB = true → f ⟨c.putL ++ r, false⟩ = (c, ⟨r, false⟩)) (hb : b.length ≤ 65536) (h : changesL (ofChgs num f b).1 ≠ (b, 0)) : ofChangesL b = ([], 8) :=
  ofChangesL_none hb fun l hl => by rw [ofChgs_enc hnum hf hl] at h; exact h hl.2
theorem ofCh_some (ho : ∀ s, (f s).1.Ok) (h : changesL (ofChgs num f b).1 = (b, 0)) : ofChangesL b = ((ofChgs num f b).1, 0) :=
  ofChangesL_some ⟨readsGo_ok ho _ _ [] (by simp), h⟩
theorem readsGo_step {n : Nat} {s : RS} {acc : List Chg} : readsGo f (n + 1) s acc = if (f s).2.bad = true then (acc ++ [(f s).1], (f s).2) else readsGo f n (f s).2 (acc ++ [(f s).1]) := rfl
end
theorem numS_encF (m n : Nat) (r : List UInt8) (a : n < 2 ^ 64) (b : n ≤ m) : numS m ⟨small n ++ r, false⟩ = (n, ⟨r, false⟩) := numS_enc a b r false
theorem numR_encF (m n : Nat) (r : List UInt8) (a : n < 2 ^ 64) (b : n ≤ m) : numR m ⟨small n ++ r, false⟩ = (n, ⟨r, false⟩) := numR_enc a b r false
theorem changeS_encF (c : Chg) (r : List UInt8) (a : c.Ok) (b : c.mayB = true) : changeS ⟨c.putL ++ r, false⟩ = (c, ⟨r, false⟩) := changeS_enc a b r false
theorem changeR_encF (c : Chg) (r : List UInt8) (a : c.Ok) (b : c.mayB = true) : changeR ⟨c.putL ++ r, false⟩ = (c, ⟨r, false⟩) := changeR_enc a b r false
theorem changeS_len (s : RS) : (changeS s).2.l.length ≤ s.l.length := by
  have hb := byteS_len s
  unfold changeS changeG
  generalize byteS s = q at *
  obtain ⟨x, t⟩ := q
  simp only at *
  repeat' split
  · have a1 := numS_len 4 t
    have a2 := (textS_len (numS 4 t).2).2
    have a3 := (textS_len (textS (numS 4 t).2).2).2
    have a4 := numS_len 4294967295 (textS (textS (numS 4 t).2).2).2
    have a5 := numS_len 1099511627776 (numS 4294967295 (textS (textS (numS 4 t).2).2).2).2
    have a6 := wideS_len (numS 1099511627776 (numS 4294967295 (textS (textS (numS 4 t).2).2).2).2).2
    show (wideS _).2.l.length ≤ _
    omega
  · have a1 := numS_len 4 t
    have a2 := (textS_len (numS 4 t).2).2
    have a3 := byteS_len (textS (numS 4 t).2).2
    show (byteS _).2.l.length ≤ _
    omega
  · have a1 := numS_len 4 t
    show (numS 4 t).2.l.length ≤ _
    omega
  · have a1 := numS_len 1099511627776 t
    show (numS _ t).2.l.length ≤ _
    omega
  · have a1 := numS_len 4 t
    have a2 := numS_len 1099511627776 (numS 4 t).2
    show (numS _ (numS 4 t).2).2.l.length ≤ _
    omega
  · have a1 := numS_len 1099511627776 t
    have a2 := byteS_len (numS 1099511627776 t).2
    show (byteS _).2.l.length ≤ _
    omega
  · have a1 := numS_len 1099511627776 t
    show (numS _ t).2.l.length ≤ _
    omega
  · show t.l.length ≤ _
    omega
theorem ofChangesS_spec (b : List UInt8) (hl : b.length ≤ 140737488355328) (H : Heap) : WC Try.prog 32 [Enc.u8.lst b] H fun r H' => r = .tup [chgE.lst (ofChangesL b).1, .int .i64 (ofChangesL b).2] ∧ H' = H := by
  refine WC_val fun K hK => ?_
  by_cases hbig : b.length > 65536
  · have ib : (b.length : Int) > 65536 := by omega
    rw [show ofChangesL b = ([], 3) by unfold ofChangesL; rw [if_pos hbig]] at hK
    clear hbig
    refine WC_of_body hT Try.func32 rfl (by simp [Try.f32]) (by simp [Try.f32]) (wx_sound hT _ ?_)
    simp only [Try.f32]
    repeat' (first | simp only [go_sem, Nat.reduceLT, Nat.reduceEqDiff, Nat.reduceAdd, Nat.reduceMul, Nat.reduceSub, Nat.reduceLeDiff, Int.reduceToNat, Int.reduceNeg, Int.reduceLT, Int.reduceLE, Int.reduceEq, reduceCtorEq, Int.natCast_zero, Int.natCast_one, Int.cast_ofNat_Int, Bool.not_not, false_eq_decide, true_eq_decide, hread0, hreadk, read_cons0, read_consk, astore_h0, astore_hk, hget0, hgetk, hset0, hsetk, hlen, hcat, Nat.add_assoc, Nat.add_zero, Nat.zero_add, List.length_append, and_true, true_and, AV.flat, *, -hK] | with_reducible refine IfB_dec (fun h => ?_) (fun h => ?_) | with_reducible refine Guard_dec (fun h => ?_) (fun h => ?_) | with_reducible refine Guard_ndec (fun h => ?_) (fun h => ?_) | with_reducible refine Guard_not (fun h => ?_) (fun h => ?_) | with_reducible refine IfB_ndec (fun h => ?_) (fun h => ?_) | with_reducible refine IfB_not (fun h => ?_) (fun h => ?_) | with_reducible refine Guard_split (fun h => ?_) (fun h => ?_) | with_reducible refine IfB_split (fun h => ?_) (fun h => ?_))
    exact hK _ _ (Thaw.tup_row ⟨.nils, .int _ _, trivial⟩) (Keep.refl _ _)
  have ib : ¬ (b.length : Int) > 65536 := by omega
  have q1 := ofCh_bad (b := b) numS_encF changeS_encF (by omega)
  have q2 := ofCh_none (b := b) numS_encF changeS_encF (by omega)
  have q3 := ofCh_some (num := numS) (b := b) changeS_ok
  unfold ofChgs at q1 q2 q3
  obtain ⟨n0, s0, hn0⟩ : ∃ x s, numS 4096 ⟨b, false⟩ = (x, s) := ⟨_, _, rfl⟩
  have ln0 := numS_len 4096 ⟨b, false⟩
  have hn4 := numS_le 4096 ⟨b, false⟩
  rw [hn0] at q1 q2 q3 ln0 hn4
  simp only at q1 q2 q3 ln0 hn4
  have b1 := fun (L : Heap) (hb : L[0]? = some ⟨[Enc.u8.lst b, .bool false], 0, .full⟩) => num_spec H.length 4096 (by omega) b false hl (H ++ L) (by rw [hget0]; exact hb)
  rw [hn0] at b1
  simp only [RS.blk, Int.cast_ofNat_Int] at b1
  refine WC_of_body hT Try.func32 rfl (by simp [Try.f32]) (by simp [Try.f32]) (wx_sound hT _ ?_)
  simp only [Try.f32]
  repeat' (first | simp only [go_sem, Nat.reduceLT, Nat.reduceEqDiff, Nat.reduceAdd, Nat.reduceMul, Nat.reduceSub, Nat.reduceLeDiff, Int.reduceToNat, Int.reduceNeg, Int.reduceLT, Int.reduceLE, Int.reduceEq, reduceCtorEq, Int.natCast_zero, Int.natCast_one, Int.cast_ofNat_Int, Bool.not_not, false_eq_decide, true_eq_decide, hread0, hreadk, read_cons0, read_consk, astore_h0, astore_hk, hget0, hgetk, hset0, hsetk, hlen, hcat, Nat.add_assoc, Nat.add_zero, Nat.zero_add, List.length_append, and_true, true_and, AV.flat, *, -hK, -b1, -hn0, -q1, -q2, -q3, -ln0, -hn4] | refine WC.call (b1 _ rfl) ?_ | with_reducible refine IfB_dec (fun h => ?_) (fun h => ?_) | with_reducible refine Guard_dec (fun h => ?_) (fun h => ?_) | with_reducible refine Guard_ndec (fun h => ?_) (fun h => ?_) | with_reducible refine Guard_not (fun h => ?_) (fun h => ?_) | with_reducible refine IfB_ndec (fun h => ?_) (fun h => ?_) | with_reducible refine IfB_not (fun h => ?_) (fun h => ?_) | with_reducible refine Guard_split (fun h => ?_) (fun h => ?_) | with_reducible refine IfB_split (fun h => ?_) (fun h => ?_))
  refine WX_loopS [0, 4, 15] (fun k fr' H' => ∃ (i : Nat) (v : AV) (s : RS) (acc : List Chg), k = n0 - i ∧ i ≤ n0 ∧ fr'.get 16 = .int .i64 i ∧ fr'.get 5 = v ∧ readsGo changeS n0 s0 [] = readsGo changeS (n0 - i) s acc ∧ s.l.length ≤ b.length ∧ acc.length = i ∧ (∀ c ∈ acc, c.Ok) ∧ H'[H.length]? = some ⟨[Enc.u8.lst s.l, .bool s.bad], 0, .full⟩ ∧ OwnE chgE (H.length + 1) H' v acc ∧ Keep none H H') n0 ⟨0, .nils, s0, [], rfl, Nat.zero_le _, by simp only [go_sem, Nat.reduceLT, Nat.reduceEqDiff, Nat.reduceAdd, Nat.reduceMul, Nat.reduceSub, Nat.reduceLeDiff, Int.reduceToNat, Int.reduceNeg, Int.reduceLT, Int.reduceLE, Int.reduceEq, reduceCtorEq]; rfl, by simp only [go_sem, Nat.reduceLT, Nat.reduceEqDiff, Nat.reduceAdd, Nat.reduceMul, Nat.reduceSub, Nat.reduceLeDiff, Int.reduceToNat, Int.reduceNeg, Int.reduceLT, Int.reduceLE, Int.reduceEq, reduceCtorEq], rfl, ln0, rfl, by simp, by rw [hget0]; rfl, OwnE.nils _ _ _, Keep.app _ _ _⟩ ?_
  clear b1 hn0
  rintro k fr' H' A R hA hs hg hR ⟨i, v, s, acc, rfl, hi, f16, f5, hgo, hsl, hal, hok, hr, ov, kk⟩
  have s0 := hg 0 (by decide)
  have s4 := hg 4 (by decide)
  have s15 := hg 15 (by decide)
  simp only [Fr.get_put, Fr.get_init, List.getD_cons_zero, List.getD_cons_succ, Nat.reduceEqDiff, if_true, if_false] at s0 s4 s15
  have hv := ov.one
  have hvb : ∀ b, v.blk = some b → H.length + 1 ≤ b ∧ b < H'.length := fun b hb => ⟨ov.ge hb, ov.lt hb⟩
  have hH : H.length + 1 ≤ H'.length := by have := (List.getElem?_eq_some_iff.1 hr).1; omega
  by_cases hlt : i < n0
  · refine wx_sound hT _ ?_
    have i1 : (i : Int) < n0 := by omega
    have e3 := inc_id hlt (show n0 ≤ 140737488355328 by omega)
    have cs := change_spec H.length s.l s.bad (by omega) H' hr
    rw [show (⟨s.l, s.bad⟩ : RS) = s from rfl] at cs
    have lc := changeS_len s
    have oc := changeS_ok s
    obtain ⟨m, hm⟩ : ∃ m, n0 - i = m + 1 := ⟨n0 - i - 1, by omega⟩
    rw [hm, readsGo_step] at hgo
    generalize changeS s = q at *
    obtain ⟨c, t⟩ := q
    simp only [RS.blk] at cs lc oc hgo
    repeat' (first | simp only [go_sem, Nat.reduceLT, Nat.reduceEqDiff, Nat.reduceAdd, Nat.reduceMul, Nat.reduceSub, Nat.reduceLeDiff, Int.reduceToNat, Int.reduceNeg, Int.reduceLT, Int.reduceLE, Int.reduceEq, reduceCtorEq, Int.natCast_zero, Int.natCast_one, Int.cast_ofNat_Int, Bool.not_not, false_eq_decide, true_eq_decide, hread0, hreadk, read_cons0, read_consk, astore_h0, astore_hk, hget0, hgetk, hset0, hsetk, hlen, hcat, Nat.add_assoc, Nat.add_zero, Nat.zero_add, List.length_append, and_true, true_and, AV.flat, hv, one_solid hv, one_cells hv, *, -hK, -q1, -q2, -q3, -hgo, -hok, -ov, -cs, -hm, -hal, -oc] | with_reducible refine IfB_dec (fun h => ?_) (fun h => ?_) | with_reducible refine Guard_dec (fun h => ?_) (fun h => ?_) | with_reducible refine Guard_ndec (fun h => ?_) (fun h => ?_) | with_reducible refine Guard_not (fun h => ?_) (fun h => ?_) | with_reducible refine IfB_ndec (fun h => ?_) (fun h => ?_) | with_reducible refine IfB_not (fun h => ?_) (fun h => ?_) | with_reducible refine Guard_split (fun h => ?_) (fun h => ?_) | with_reducible refine IfB_split (fun h => ?_) (fun h => ?_))
    refine cs.mono ?_
    rintro r G ⟨rfl, kG⟩
    have hrG := kG.get (get_set hr _) (by simp)
    have hlG := kG.len
    rw [List.length_set] at hlG
    have ks : Keep (some H.length) H' (List.set H' H.length ⟨[Enc.u8.lst t.l, .bool t.bad], 0, .full⟩) := Keep.of_set rfl
    have ovG := (ov.keep ks (fun b hb e => by cases hb; have := hvb _ e; omega)).keep kG (fun b hb => by cases hb)
    clear ks
    have kkG : Keep none H G := ⟨by omega, fun b hb _ => by rw [kG.at_ b (by rw [List.length_set]; omega) (by simp), List.getElem?_set_ne (by omega)]; exact kk.at_ b hb (by simp)⟩
    unfold Chg.av
    repeat' (first | simp only [go_sem, Nat.reduceLT, Nat.reduceEqDiff, Nat.reduceAdd, Nat.reduceMul, Nat.reduceSub, Nat.reduceLeDiff, Int.reduceToNat, Int.reduceNeg, Int.reduceLT, Int.reduceLE, Int.reduceEq, reduceCtorEq, Int.natCast_zero, Int.natCast_one, Int.cast_ofNat_Int, Bool.not_not, false_eq_decide, true_eq_decide, hread0, hreadk, read_cons0, read_consk, astore_h0, astore_hk, hget0, hgetk, hset0, hsetk, hlen, hcat, Nat.add_assoc, Nat.add_zero, Nat.zero_add, List.length_append, and_true, true_and, AV.flat, hv, one_solid hv, one_cells hv, *, -hK, -q1, -q2, -q3, -hgo, -hok, -ov, -cs, -hm, -hal, -oc, -ovG, -kG, -kkG] | with_reducible refine IfB_dec (fun h => ?_) (fun h => ?_) | with_reducible refine Guard_dec (fun h => ?_) (fun h => ?_) | with_reducible refine Guard_ndec (fun h => ?_) (fun h => ?_) | with_reducible refine Guard_not (fun h => ?_) (fun h => ?_) | with_reducible refine IfB_ndec (fun h => ?_) (fun h => ?_) | with_reducible refine IfB_not (fun h => ?_) (fun h => ?_) | with_reducible refine Guard_split (fun h => ?_) (fun h => ?_) | with_reducible refine IfB_split (fun h => ?_) (fun h => ?_))
    refine append1_enc (E := chgE) (m := H.length + 1) (x := c) ovG rfl se56 az71 td71 tk56 rfl rfl (by decide) (by simp only [chgE]; omega) (by omega) ?_
    intro v4 H4 o4 k4 hn4
    have hr4 := k4.get hrG (fun e => by have := hvb _ e; omega)
    have kk4 : Keep none H H4 := ⟨by have := k4.len; omega, fun b hb _ => by rw [k4.at_ b (by omega) (fun e => by have := hvb _ e; omega)]; exact kkG.at_ b hb (by simp)⟩
    have hv4 := o4.one
    cases hbd : t.bad with
    | true =>
      rw [hbd] at hr4 hgo
      simp only [if_true] at hgo
      rw [hgo] at q1
      rw [q1 hbd] at hK
      clear q1 q2 q3 hbd hR
      repeat' (first | simp only [go_sem, Nat.reduceLT, Nat.reduceEqDiff, Nat.reduceAdd, Nat.reduceMul, Nat.reduceSub, Nat.reduceLeDiff, Int.reduceToNat, Int.reduceNeg, Int.reduceLT, Int.reduceLE, Int.reduceEq, reduceCtorEq, Int.natCast_zero, Int.natCast_one, Int.cast_ofNat_Int, Bool.not_not, false_eq_decide, true_eq_decide, hread0, hreadk, read_cons0, read_consk, astore_h0, astore_hk, hget0, hgetk, hset0, hsetk, hlen, hcat, Nat.add_assoc, Nat.add_zero, Nat.zero_add, List.length_append, and_true, true_and, AV.flat, hv4, one_solid hv4, one_cells hv4, hr4, get_app hr4, read_get hr4, read_app hr4, *, -hK, -hgo, -hok, -ov, -cs, -hm, -hal, -oc, -ovG, -kG, -kkG, -o4, -k4, -kk4] | with_reducible refine IfB_dec (fun h => ?_) (fun h => ?_) | with_reducible refine Guard_dec (fun h => ?_) (fun h => ?_) | with_reducible refine Guard_ndec (fun h => ?_) (fun h => ?_) | with_reducible refine Guard_not (fun h => ?_) (fun h => ?_) | with_reducible refine IfB_ndec (fun h => ?_) (fun h => ?_) | with_reducible refine IfB_not (fun h => ?_) (fun h => ?_) | with_reducible refine Guard_split (fun h => ?_) (fun h => ?_) | with_reducible refine IfB_split (fun h => ?_) (fun h => ?_))
      exact hK _ _ (Thaw.tup_row ⟨.nils, .int _ _, trivial⟩) kk4
    | false =>
      rw [hbd] at hr4 hgo
      simp only [Bool.false_eq_true, if_false] at hgo
      have hok2 : ∀ c' ∈ acc ++ [c], c'.Ok := fun c' hc' => by
        rcases List.mem_append.1 hc' with h | h
        · exact hok _ h
        · simp at h; rw [h]; exact oc
      have back : ∀ fr2, A fr2 → fr2.get 16 = .int .i64 ((i + 1 : Nat) : Int) → fr2.get 5 = v4 → R fr2 H4 := fun fr2 ha g1 g2 => hR fr2 H4 ha (n0 - (i + 1)) (by omega) ⟨i + 1, v4, t, acc ++ [c], rfl, by omega, g1, g2, by rw [hgo, show n0 - (i + 1) = m by omega], by omega, by simp [hal], hok2, by rw [hbd]; exact hr4, o4, kk4⟩
      clear q1 q2 q3 hbd hR hok2
      repeat' (first | simp only [go_sem, Nat.reduceLT, Nat.reduceEqDiff, Nat.reduceAdd, Nat.reduceMul, Nat.reduceSub, Nat.reduceLeDiff, Int.reduceToNat, Int.reduceNeg, Int.reduceLT, Int.reduceLE, Int.reduceEq, reduceCtorEq, Int.natCast_zero, Int.natCast_one, Int.cast_ofNat_Int, Bool.not_not, false_eq_decide, true_eq_decide, hread0, hreadk, read_cons0, read_consk, astore_h0, astore_hk, hget0, hgetk, hset0, hsetk, hlen, hcat, Nat.add_assoc, Nat.add_zero, Nat.zero_add, List.length_append, and_true, true_and, AV.flat, hv4, one_solid hv4, one_cells hv4, hr4, get_app hr4, read_get hr4, read_app hr4, *, -hK, -hgo, -hok, -ov, -cs, -hm, -hal, -oc, -ovG, -kG, -kkG, -o4, -k4, -kk4, -back] | with_reducible refine IfB_dec (fun h => ?_) (fun h => ?_) | with_reducible refine Guard_dec (fun h => ?_) (fun h => ?_) | with_reducible refine Guard_ndec (fun h => ?_) (fun h => ?_) | with_reducible refine Guard_not (fun h => ?_) (fun h => ?_) | with_reducible refine IfB_ndec (fun h => ?_) (fun h => ?_) | with_reducible refine IfB_not (fun h => ?_) (fun h => ?_) | with_reducible refine Guard_split (fun h => ?_) (fun h => ?_) | with_reducible refine IfB_split (fun h => ?_) (fun h => ?_))
      exact back _ (by (repeat (first | exact hs | refine hA _ _ _ (by decide) ?_))) (by simp only [go_sem, Nat.reduceLT, Nat.reduceEqDiff, Nat.reduceAdd, Nat.reduceMul, Nat.reduceSub, Nat.reduceLeDiff, Int.reduceToNat, Int.reduceNeg, Int.reduceLT, Int.reduceLE, Int.reduceEq, reduceCtorEq]) (by simp only [go_sem, Nat.reduceLT, Nat.reduceEqDiff, Nat.reduceAdd, Nat.reduceMul, Nat.reduceSub, Nat.reduceLeDiff, Int.reduceToNat, Int.reduceNeg, Int.reduceLT, Int.reduceLE, Int.reduceEq, reduceCtorEq])
  have hin : i = n0 := by omega
  have i1 : ¬ (i : Int) < n0 := by omega
  rw [hin, Nat.sub_self] at hgo
  simp only [readsGo] at hgo
  rw [hgo] at q1 q2 q3
  simp only at q1 q2 q3
  clear hR hs hg hA
  refine WX_freezeFE ov (by decide) 5 f5 ?_
  intro G fz
  have hrG := fz.other H.length (fun e => by have := hvb _ e; omega)
  rw [hr] at hrG
  have kG : Keep none H G := ⟨by have := fz.len; omega, fun b hb _ => by rw [fz.other b (fun e => by have := hvb _ e; omega)]; exact kk.at_ b hb (by simp)⟩
  refine wx_sound hT _ ?_
  have cs := fun J => changes_spec acc (by omega) hok J
  have be := fun cb J => bytesEqual_spec cb b J
  clear fz ov hr kk hvb hv hH hgo hlt
  generalize changesL acc = ce at *
  obtain ⟨cb, e⟩ := ce
  simp only at cs
  by_cases hs : s.bad = true
  · rw [q1 hs] at hK
    rw [hs] at hrG
    clear q1 q2 q3 hs
    repeat' (first | simp only [go_sem, Nat.reduceLT, Nat.reduceEqDiff, Nat.reduceAdd, Nat.reduceMul, Nat.reduceSub, Nat.reduceLeDiff, Int.reduceToNat, Int.reduceNeg, Int.reduceLT, Int.reduceLE, Int.reduceEq, reduceCtorEq, Int.natCast_zero, Int.natCast_one, Int.cast_ofNat_Int, Bool.not_not, false_eq_decide, true_eq_decide, hread0, hreadk, read_cons0, read_consk, astore_h0, astore_hk, hget0, hgetk, hset0, hsetk, hlen, hcat, Nat.add_assoc, Nat.add_zero, Nat.zero_add, List.length_append, and_true, true_and, AV.flat, hrG, get_app hrG, read_get hrG, read_app hrG, *, -hK, -hok, -hal, -hin, -cs, -be] | refine WC.call (cs _) ?_ | with_reducible refine IfB_dec (fun h => ?_) (fun h => ?_) | with_reducible refine Guard_dec (fun h => ?_) (fun h => ?_) | with_reducible refine Guard_ndec (fun h => ?_) (fun h => ?_) | with_reducible refine Guard_not (fun h => ?_) (fun h => ?_) | with_reducible refine IfB_ndec (fun h => ?_) (fun h => ?_) | with_reducible refine IfB_not (fun h => ?_) (fun h => ?_) | with_reducible refine Guard_split (fun h => ?_) (fun h => ?_) | with_reducible refine IfB_split (fun h => ?_) (fun h => ?_))
    exact hK _ _ (Thaw.tup_row ⟨.nils, .int _ _, trivial⟩) kG
  have hs : s.bad = false := by simpa using hs
  rw [hs] at hrG
  by_cases hce : (cb, e) = (b, 0)
  · rw [q3 hce] at hK
    simp only [Prod.mk.injEq] at hce
    obtain ⟨rfl, rfl⟩ := hce
    clear q1 q2 q3 hs
    repeat' (first | simp only [go_sem, Nat.reduceLT, Nat.reduceEqDiff, Nat.reduceAdd, Nat.reduceMul, Nat.reduceSub, Nat.reduceLeDiff, Int.reduceToNat, Int.reduceNeg, Int.reduceLT, Int.reduceLE, Int.reduceEq, reduceCtorEq, Int.natCast_zero, Int.natCast_one, Int.cast_ofNat_Int, Bool.not_not, false_eq_decide, true_eq_decide, hread0, hreadk, read_cons0, read_consk, astore_h0, astore_hk, hget0, hgetk, hset0, hsetk, hlen, hcat, Nat.add_assoc, Nat.add_zero, Nat.zero_add, List.length_append, and_true, true_and, AV.flat, hrG, get_app hrG, read_get hrG, read_app hrG, *, -hK, -hok, -hal, -hin, -cs, -be] | refine WC.call (cs _) ?_ | refine WC.call (be _ _) ?_ | with_reducible refine IfB_dec (fun h => ?_) (fun h => ?_) | with_reducible refine Guard_dec (fun h => ?_) (fun h => ?_) | with_reducible refine Guard_ndec (fun h => ?_) (fun h => ?_) | with_reducible refine Guard_not (fun h => ?_) (fun h => ?_) | with_reducible refine IfB_ndec (fun h => ?_) (fun h => ?_) | with_reducible refine IfB_not (fun h => ?_) (fun h => ?_) | with_reducible refine Guard_split (fun h => ?_) (fun h => ?_) | with_reducible refine IfB_split (fun h => ?_) (fun h => ?_))
    exact hK _ _ (Thaw.tup_row ⟨.lst _ _, .int _ _, trivial⟩) kG
  rw [q2 hce] at hK
  simp only [Prod.mk.injEq] at hce
  clear q1 q2 q3 hs
  by_cases he : e = 0
  · subst he
    have hcb : ¬ cb = b := fun h => hce ⟨h, rfl⟩
    clear hce
    repeat' (first | simp only [go_sem, Nat.reduceLT, Nat.reduceEqDiff, Nat.reduceAdd, Nat.reduceMul, Nat.reduceSub, Nat.reduceLeDiff, Int.reduceToNat, Int.reduceNeg, Int.reduceLT, Int.reduceLE, Int.reduceEq, reduceCtorEq, Int.natCast_zero, Int.natCast_one, Int.cast_ofNat_Int, Bool.not_not, false_eq_decide, true_eq_decide, hread0, hreadk, read_cons0, read_consk, astore_h0, astore_hk, hget0, hgetk, hset0, hsetk, hlen, hcat, Nat.add_assoc, Nat.add_zero, Nat.zero_add, List.length_append, and_true, true_and, AV.flat, hrG, get_app hrG, read_get hrG, read_app hrG, *, -hK, -hok, -hal, -hin, -cs, -be] | refine WC.call (cs _) ?_ | refine WC.call (be _ _) ?_ | with_reducible refine IfB_dec (fun h => ?_) (fun h => ?_) | with_reducible refine Guard_dec (fun h => ?_) (fun h => ?_) | with_reducible refine Guard_ndec (fun h => ?_) (fun h => ?_) | with_reducible refine Guard_not (fun h => ?_) (fun h => ?_) | with_reducible refine IfB_ndec (fun h => ?_) (fun h => ?_) | with_reducible refine IfB_not (fun h => ?_) (fun h => ?_) | with_reducible refine Guard_split (fun h => ?_) (fun h => ?_) | with_reducible refine IfB_split (fun h => ?_) (fun h => ?_))
    exact hK _ _ (Thaw.tup_row ⟨.nils, .int _ _, trivial⟩) kG
  · clear hce
    repeat' (first | simp only [go_sem, Nat.reduceLT, Nat.reduceEqDiff, Nat.reduceAdd, Nat.reduceMul, Nat.reduceSub, Nat.reduceLeDiff, Int.reduceToNat, Int.reduceNeg, Int.reduceLT, Int.reduceLE, Int.reduceEq, reduceCtorEq, Int.natCast_zero, Int.natCast_one, Int.cast_ofNat_Int, Bool.not_not, false_eq_decide, true_eq_decide, hread0, hreadk, read_cons0, read_consk, astore_h0, astore_hk, hget0, hgetk, hset0, hsetk, hlen, hcat, Nat.add_assoc, Nat.add_zero, Nat.zero_add, List.length_append, and_true, true_and, AV.flat, hrG, get_app hrG, read_get hrG, read_app hrG, *, -hK, -hok, -hal, -hin, -cs, -be] | refine WC.call (cs _) ?_ | refine WC.call (be _ _) ?_ | with_reducible refine IfB_dec (fun h => ?_) (fun h => ?_) | with_reducible refine Guard_dec (fun h => ?_) (fun h => ?_) | with_reducible refine Guard_ndec (fun h => ?_) (fun h => ?_) | with_reducible refine Guard_not (fun h => ?_) (fun h => ?_) | with_reducible refine IfB_ndec (fun h => ?_) (fun h => ?_) | with_reducible refine IfB_not (fun h => ?_) (fun h => ?_) | with_reducible refine Guard_split (fun h => ?_) (fun h => ?_) | with_reducible refine IfB_split (fun h => ?_) (fun h => ?_))
    exact hK _ _ (Thaw.tup_row ⟨.nils, .int _ _, trivial⟩) kG
end Go.Proofs.Ytakmlfbejbelaaa
