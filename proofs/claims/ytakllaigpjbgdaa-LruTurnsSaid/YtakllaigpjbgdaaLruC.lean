import Derived.Test.YtakllaigpjbgdaaLruB
set_option linter.unusedSimpArgs false
set_option linter.unusedVariables false
set_option maxRecDepth 100000
set_option maxHeartbeats 4000000
namespace Go.Proofs.Ytakllaigpjbgdaa
open Go Go.Proofs Go.Proofs.PI
/-! ### twin, asked, Add, Hit, Del -/
def OwnO (m : Nat) (H : Heap) (a : AV) (o : Ord) : Prop := ∃ vt vk, a = .agg [vt, vk] ∧ OwnE Enc.str m H vt o.t ∧ OwnE Enc.str m H vk o.k ∧ ∀ b, vt.blk = some b → vk.blk ≠ some b
theorem OwnO.thaw {m : Nat} {H : Heap} {a : AV} {o : Ord} (h : OwnO m H a o) : Thaw m H a o.av := by
  obtain ⟨vt, vk, rfl, h1, h2, -⟩ := h
  exact Thaw.agg_row ⟨OwnE.thaw (E := Enc.str) h1 (by decide), OwnE.thaw (E := Enc.str) h2 (by decide), trivial⟩
theorem twin_own (o : Ord) (hf : o.fit) (H : Heap) : WC Try.prog 37 [o.av] H fun r H' => OwnO H.length H' r o ∧ Keep none H H' := by
  refine WC_of_K fun K hK => ?_
  obtain ⟨t, k⟩ := o
  obtain ⟨h1, h2⟩ := hf
  simp only at h1 h2
  have c1 := fun J => sclone_own t (by omega) J
  have c2 := fun J => sclone_own k (by omega) J
  unfold Ord.av
  simp only
  refine WC_of_body hT Try.func37 rfl (by simp [Try.f37]) (by simp [Try.f37]) (wx_sound hT _ ?_)
  simp only [Try.f37]
  repeat' (first | simp only [go_sem, Nat.reduceLT, Nat.reduceEqDiff, Nat.reduceAdd, Nat.reduceMul, Nat.reduceSub, Nat.reduceLeDiff, Int.reduceToNat, Int.reduceNeg, Int.reduceLT, Int.reduceLE, Int.reduceEq, reduceCtorEq, Int.natCast_zero, Int.natCast_one, Int.cast_ofNat_Int, Bool.not_not, false_eq_decide, true_eq_decide, hread0, hreadk, read_cons0, read_consk, astore_h0, astore_hk, hget0, hgetk, hset0, hsetk, hlen, hcat, Nat.add_assoc, Nat.add_zero, Nat.zero_add, List.length_append, and_true, true_and, AV.flat, *, -hK, -c1, -c2] | with_reducible refine IfB_dec (fun h => ?_) (fun h => ?_) | with_reducible refine Guard_dec (fun h => ?_) (fun h => ?_) | with_reducible refine Guard_ndec (fun h => ?_) (fun h => ?_) | with_reducible refine Guard_not (fun h => ?_) (fun h => ?_) | with_reducible refine IfB_ndec (fun h => ?_) (fun h => ?_) | with_reducible refine IfB_not (fun h => ?_) (fun h => ?_) | with_reducible refine Guard_split (fun h => ?_) (fun h => ?_) | with_reducible refine IfB_split (fun h => ?_) (fun h => ?_))
  refine WX_rows hT hmix [(0, none), (1, none), (3, none), (4, none), (2, some [false, false, true, true]), (5, some [true, true, true, true, true]), (6, none), (7, some [true, true, true, true, true, true, true])] (by kernel_rfl) ?_
  repeat' (first | simp only [go_sem, Nat.reduceLT, Nat.reduceEqDiff, Nat.reduceAdd, Nat.reduceMul, Nat.reduceSub, Nat.reduceLeDiff, Int.reduceToNat, Int.reduceNeg, Int.reduceLT, Int.reduceLE, Int.reduceEq, reduceCtorEq, Int.natCast_zero, Int.natCast_one, Int.cast_ofNat_Int, Bool.not_not, false_eq_decide, true_eq_decide, hread0, hreadk, read_cons0, read_consk, astore_h0, astore_hk, hget0, hgetk, hset0, hsetk, hlen, hcat, Nat.add_assoc, Nat.add_zero, Nat.zero_add, List.length_append, and_true, true_and, AV.flat, *, -hK, -c1, -c2] | with_reducible refine IfB_dec (fun h => ?_) (fun h => ?_) | with_reducible refine Guard_dec (fun h => ?_) (fun h => ?_) | with_reducible refine Guard_ndec (fun h => ?_) (fun h => ?_) | with_reducible refine Guard_not (fun h => ?_) (fun h => ?_) | with_reducible refine IfB_ndec (fun h => ?_) (fun h => ?_) | with_reducible refine IfB_not (fun h => ?_) (fun h => ?_) | with_reducible refine Guard_split (fun h => ?_) (fun h => ?_) | with_reducible refine IfB_split (fun h => ?_) (fun h => ?_))
  refine (c1 _).mono ?_
  rintro vt H1 ⟨o1, k1⟩
  have g0 := k1.get (b := H.length) (B := ⟨[Enc.str.lst t, Enc.str.lst k], 0, .full⟩) (by rw [hget0]; rfl) (by simp)
  have g1 := k1.get (b := H.length + 1) (B := ⟨[.nils, .nils], 0, .full⟩) (by rw [hgetk]; rfl) (by simp)
  repeat' (first | simp only [go_sem, Nat.reduceLT, Nat.reduceEqDiff, Nat.reduceAdd, Nat.reduceMul, Nat.reduceSub, Nat.reduceLeDiff, Int.reduceToNat, Int.reduceNeg, Int.reduceLT, Int.reduceLE, Int.reduceEq, reduceCtorEq, Int.natCast_zero, Int.natCast_one, Int.cast_ofNat_Int, Bool.not_not, false_eq_decide, true_eq_decide, hread0, hreadk, read_cons0, read_consk, astore_h0, astore_hk, hget0, hgetk, hset0, hsetk, hlen, hcat, Nat.add_assoc, Nat.add_zero, Nat.zero_add, List.length_append, and_true, true_and, AV.flat, g0, get_app g0, read_get g0, read_app g0, g1, get_app g1, read_get g1, read_app g1, *, -hK, -c1, -c2, -o1, -k1] | with_reducible refine IfB_dec (fun h => ?_) (fun h => ?_) | with_reducible refine Guard_dec (fun h => ?_) (fun h => ?_) | with_reducible refine Guard_ndec (fun h => ?_) (fun h => ?_) | with_reducible refine Guard_not (fun h => ?_) (fun h => ?_) | with_reducible refine IfB_ndec (fun h => ?_) (fun h => ?_) | with_reducible refine IfB_not (fun h => ?_) (fun h => ?_) | with_reducible refine Guard_split (fun h => ?_) (fun h => ?_) | with_reducible refine IfB_split (fun h => ?_) (fun h => ?_))
  refine (c2 _).mono ?_
  rintro vk H2 ⟨o2, k2⟩
  have g02 := k2.get g0 (by simp)
  have g12 := k2.get g1 (by simp)
  have hv1 := o1.one
  have hv2 := o2.one
  have hl1 : H.length + 2 ≤ H1.length := by have := k1.len; simpa using this
  have o1' : OwnE Enc.str H.length (List.set H2 (H.length + 1) ⟨[vt, vk], 0, .full⟩) vt t := own_same (Own.mono (o1.keep0 k2) (by simp)) fun b hb => List.getElem?_set_ne fun e => by have := o1.ge hb; simp at this; omega
  have o2' : OwnE Enc.str H.length (List.set H2 (H.length + 1) ⟨[vt, vk], 0, .full⟩) vk k := own_same (Own.mono o2 (by omega)) fun b hb => List.getElem?_set_ne fun e => by have := o2.ge hb; omega
  have hdis : ∀ b, vt.blk = some b → vk.blk ≠ some b := fun b hb hk => by have := o1.lt hb; have := o2.ge hk; omega
  have kF : Keep none H (List.set H2 (H.length + 1) ⟨[vt, vk], 0, .full⟩) := ⟨by rw [List.length_set]; have := k2.len; omega, fun b hb _ => by rw [List.getElem?_set_ne (by omega), k2.at_ b (by omega) (by simp), k1.at_ b (by simp; omega) (by simp), List.getElem?_append_left hb]⟩
  repeat' (first | simp only [go_sem, Nat.reduceLT, Nat.reduceEqDiff, Nat.reduceAdd, Nat.reduceMul, Nat.reduceSub, Nat.reduceLeDiff, Int.reduceToNat, Int.reduceNeg, Int.reduceLT, Int.reduceLE, Int.reduceEq, reduceCtorEq, Int.natCast_zero, Int.natCast_one, Int.cast_ofNat_Int, Bool.not_not, false_eq_decide, true_eq_decide, hread0, hreadk, read_cons0, read_consk, astore_h0, astore_hk, hget0, hgetk, hset0, hsetk, hlen, hcat, Nat.add_assoc, Nat.add_zero, Nat.zero_add, List.length_append, and_true, true_and, AV.flat, g02, get_app g02, read_get g02, read_app g02, g12, get_app g12, read_get g12, read_app g12, g12, get_app g12, read_get g12, read_app g12, astore_get g12, astore_app g12, get_set g12, get_set_app g12, read_set g12, read_set_app g12, astore_set g12, astore_set_app g12, List.set_set, hget0s, hgetks, hread0s, hreadks, List.length_set, hv1, one_solid hv1, one_cells hv1, hv2, one_solid hv2, one_cells hv2, *, -hK, -c1, -c2, -o1, -k1, -o2, -k2, -g0, -g1, -hdis, -kF, -hl1] | with_reducible refine IfB_dec (fun h => ?_) (fun h => ?_) | with_reducible refine Guard_dec (fun h => ?_) (fun h => ?_) | with_reducible refine Guard_ndec (fun h => ?_) (fun h => ?_) | with_reducible refine Guard_not (fun h => ?_) (fun h => ?_) | with_reducible refine IfB_ndec (fun h => ?_) (fun h => ?_) | with_reducible refine IfB_not (fun h => ?_) (fun h => ?_) | with_reducible refine Guard_split (fun h => ?_) (fun h => ?_) | with_reducible refine IfB_split (fun h => ?_) (fun h => ?_))
  exact hK _ _ ⟨⟨vt, vk, rfl, o1', o2', hdis⟩, kF⟩
def askE (o : Ord) (s : List UInt8) : Int := if ¬ o.may then 8 else if kOk s = false then 3 else 0
def inO (o : Ord) (s : List UInt8) : Bool := decide (s ∈ o.t) || decide (s ∈ o.k)
theorem asked_own (o : Ord) (hf : o.fit) (s : List UInt8) (H : Heap) : WC Try.prog 32 [o.av, .str s] H fun r H' => (∃ a, r = .tup [a, .bool (if askE o s = 0 then inO o s else false), .int .i64 (askE o s)] ∧ if askE o s = 0 then OwnO H.length H' a o else a = .agg [.nils, .nils]) ∧ Keep none H H' := by
  refine WC_of_K fun K hK => ?_
  have ck := fun J => check_spec o hf J
  have tw := fun J => twin_own o hf J
  have kd := fun J => keyed_spec s J
  by_cases hm : o.may
  rotate_left
  · have hE : askE o s = 8 := by unfold askE; rw [if_pos hm]
    rw [hE] at hK
    rw [if_neg (by decide)] at hK
    rw [ordE_bad hm] at ck
    unfold Ord.av at *
    refine WC_of_body hT Try.func32 rfl (by simp [Try.f32]) (by simp [Try.f32]) (wx_sound hT _ ?_)
    simp only [Try.f32]
    repeat' (first | simp only [go_sem, Nat.reduceLT, Nat.reduceEqDiff, Nat.reduceAdd, Nat.reduceMul, Nat.reduceSub, Nat.reduceLeDiff, Int.reduceToNat, Int.reduceNeg, Int.reduceLT, Int.reduceLE, Int.reduceEq, reduceCtorEq, Int.natCast_zero, Int.natCast_one, Int.cast_ofNat_Int, Bool.not_not, false_eq_decide, true_eq_decide, hread0, hreadk, read_cons0, read_consk, astore_h0, astore_hk, hget0, hgetk, hset0, hsetk, hlen, hcat, Nat.add_assoc, Nat.add_zero, Nat.zero_add, List.length_append, and_true, true_and, AV.flat, *, -hK, -ck, -tw, -kd, -hm, -hf, -hE] | refine WC.call (ck _) ?_ | with_reducible refine IfB_dec (fun h => ?_) (fun h => ?_) | with_reducible refine Guard_dec (fun h => ?_) (fun h => ?_) | with_reducible refine Guard_ndec (fun h => ?_) (fun h => ?_) | with_reducible refine Guard_not (fun h => ?_) (fun h => ?_) | with_reducible refine IfB_ndec (fun h => ?_) (fun h => ?_) | with_reducible refine IfB_not (fun h => ?_) (fun h => ?_) | with_reducible refine Guard_split (fun h => ?_) (fun h => ?_) | with_reducible refine IfB_split (fun h => ?_) (fun h => ?_))
    exact hK _ _ ⟨⟨_, rfl, by rw [if_neg (by decide)]⟩, Keep.app _ _ _⟩
  rw [ordE_ok hm] at ck
  cases hk : kOk s with
  | false =>
    have hE : askE o s = 3 := by unfold askE; rw [if_neg (not_not_intro hm), if_pos hk]
    rw [hE] at hK
    rw [if_neg (by decide)] at hK
    rw [hk] at kd
    unfold Ord.av at *
    refine WC_of_body hT Try.func32 rfl (by simp [Try.f32]) (by simp [Try.f32]) (wx_sound hT _ ?_)
    simp only [Try.f32]
    repeat' (first | simp only [go_sem, Nat.reduceLT, Nat.reduceEqDiff, Nat.reduceAdd, Nat.reduceMul, Nat.reduceSub, Nat.reduceLeDiff, Int.reduceToNat, Int.reduceNeg, Int.reduceLT, Int.reduceLE, Int.reduceEq, reduceCtorEq, Int.natCast_zero, Int.natCast_one, Int.cast_ofNat_Int, Bool.not_not, false_eq_decide, true_eq_decide, hread0, hreadk, read_cons0, read_consk, astore_h0, astore_hk, hget0, hgetk, hset0, hsetk, hlen, hcat, Nat.add_assoc, Nat.add_zero, Nat.zero_add, List.length_append, and_true, true_and, AV.flat, *, -hK, -ck, -tw, -kd, -hm, -hf, -hE, -hk] | refine WC.call (ck _) ?_ | refine WC.call (kd _) ?_ | with_reducible refine IfB_dec (fun h => ?_) (fun h => ?_) | with_reducible refine Guard_dec (fun h => ?_) (fun h => ?_) | with_reducible refine Guard_ndec (fun h => ?_) (fun h => ?_) | with_reducible refine Guard_not (fun h => ?_) (fun h => ?_) | with_reducible refine IfB_ndec (fun h => ?_) (fun h => ?_) | with_reducible refine IfB_not (fun h => ?_) (fun h => ?_) | with_reducible refine Guard_split (fun h => ?_) (fun h => ?_) | with_reducible refine IfB_split (fun h => ?_) (fun h => ?_))
    exact hK _ _ ⟨⟨_, rfl, by rw [if_neg (by decide)]⟩, Keep.app _ _ _⟩
  | true =>
  have hE : askE o s = 0 := by unfold askE; rw [if_neg (not_not_intro hm), if_neg (by rw [hk]; decide)]
  rw [hE] at hK
  rw [if_pos rfl] at hK
  rw [hk] at kd
  have ct := fun J => strHas_spec o.t s (by have := hf.1; omega) J
  have cc := fun J => strHas_spec o.k s (by have := hf.2; omega) J
  unfold Ord.av at *
  refine WC_of_body hT Try.func32 rfl (by simp [Try.f32]) (by simp [Try.f32]) (wx_sound hT _ ?_)
  simp only [Try.f32]
  repeat' (first | simp only [go_sem, Nat.reduceLT, Nat.reduceEqDiff, Nat.reduceAdd, Nat.reduceMul, Nat.reduceSub, Nat.reduceLeDiff, Int.reduceToNat, Int.reduceNeg, Int.reduceLT, Int.reduceLE, Int.reduceEq, reduceCtorEq, Int.natCast_zero, Int.natCast_one, Int.cast_ofNat_Int, Bool.not_not, false_eq_decide, true_eq_decide, hread0, hreadk, read_cons0, read_consk, astore_h0, astore_hk, hget0, hgetk, hset0, hsetk, hlen, hcat, Nat.add_assoc, Nat.add_zero, Nat.zero_add, List.length_append, and_true, true_and, AV.flat, *, -hK, -ck, -tw, -kd, -hm, -hf, -hE, -hk, -ct, -cc] | refine WC.call (ck _) ?_ | refine WC.call (kd _) ?_ | with_reducible refine IfB_dec (fun h => ?_) (fun h => ?_) | with_reducible refine Guard_dec (fun h => ?_) (fun h => ?_) | with_reducible refine Guard_ndec (fun h => ?_) (fun h => ?_) | with_reducible refine Guard_not (fun h => ?_) (fun h => ?_) | with_reducible refine IfB_ndec (fun h => ?_) (fun h => ?_) | with_reducible refine IfB_not (fun h => ?_) (fun h => ?_) | with_reducible refine Guard_split (fun h => ?_) (fun h => ?_) | with_reducible refine IfB_split (fun h => ?_) (fun h => ?_))
  refine WX_rows hT hmix [(0, none), (2, none), (3, none), (4, none), (1, some [false, false, false, true]), (5, some [true, true, true, true, true]), (6, none), (7, none), (8, none), (9, none), (10, some [true, true, true, true, true, true, true, true, true, true]), (11, none), (12, some [false, true, true, true, true, true, true, true, true, true, true, true]), (13, none), (14, none)] (by kernel_rfl) ?_
  repeat' (first | simp only [go_sem, Nat.reduceLT, Nat.reduceEqDiff, Nat.reduceAdd, Nat.reduceMul, Nat.reduceSub, Nat.reduceLeDiff, Int.reduceToNat, Int.reduceNeg, Int.reduceLT, Int.reduceLE, Int.reduceEq, reduceCtorEq, Int.natCast_zero, Int.natCast_one, Int.cast_ofNat_Int, Bool.not_not, false_eq_decide, true_eq_decide, hread0, hreadk, read_cons0, read_consk, astore_h0, astore_hk, hget0, hgetk, hset0, hsetk, hlen, hcat, Nat.add_assoc, Nat.add_zero, Nat.zero_add, List.length_append, and_true, true_and, AV.flat, *, -hK, -ck, -tw, -kd, -hm, -hf, -hE, -hk, -ct, -cc] | refine WC.call (ck _) ?_ | refine WC.call (kd _) ?_ | with_reducible refine IfB_dec (fun h => ?_) (fun h => ?_) | with_reducible refine Guard_dec (fun h => ?_) (fun h => ?_) | with_reducible refine Guard_ndec (fun h => ?_) (fun h => ?_) | with_reducible refine Guard_not (fun h => ?_) (fun h => ?_) | with_reducible refine IfB_ndec (fun h => ?_) (fun h => ?_) | with_reducible refine IfB_not (fun h => ?_) (fun h => ?_) | with_reducible refine Guard_split (fun h => ?_) (fun h => ?_) | with_reducible refine IfB_split (fun h => ?_) (fun h => ?_))
  refine (tw _).mono ?_
  rintro a H1 ⟨⟨vt, vk, rfl, o1, o2, hdis⟩, k1⟩
  have g0 := k1.get (b := H.length) (B := ⟨[Enc.str.lst o.t, Enc.str.lst o.k], 0, .full⟩) (by rw [hget0]; rfl) (by simp)
  have g1 := k1.get (b := H.length + 1) (B := ⟨[.nils, .nils], 0, .full⟩) (by rw [hgetk]; rfl) (by simp)
  have hv1 := o1.one
  have hv2 := o2.one
  have hl1 : H.length + 2 ≤ H1.length := by have := k1.len; simpa using this
  have o1' : OwnE Enc.str H.length (List.set H1 (H.length + 1) ⟨[vt, vk], 0, .full⟩) vt o.t := own_same (Own.mono o1 (by simp)) fun b hb => List.getElem?_set_ne fun e => by have := o1.ge hb; simp at this; omega
  have o2' : OwnE Enc.str H.length (List.set H1 (H.length + 1) ⟨[vt, vk], 0, .full⟩) vk o.k := own_same (Own.mono o2 (by simp)) fun b hb => List.getElem?_set_ne fun e => by have := o2.ge hb; simp at this; omega
  have kF : Keep none H (List.set H1 (H.length + 1) ⟨[vt, vk], 0, .full⟩) := ⟨by rw [List.length_set]; omega, fun b hb _ => by rw [List.getElem?_set_ne (by omega), k1.at_ b (by simp; omega) (by simp), List.getElem?_append_left hb]⟩
  clear tw ck kd
  by_cases ht : s ∈ o.t
  · rw [decide_eq_true ht] at ct
    have hin : inO o s = true := by unfold inO; rw [decide_eq_true ht]; rfl
    rw [hin] at hK
    clear ht
    repeat' (first | simp only [go_sem, Nat.reduceLT, Nat.reduceEqDiff, Nat.reduceAdd, Nat.reduceMul, Nat.reduceSub, Nat.reduceLeDiff, Int.reduceToNat, Int.reduceNeg, Int.reduceLT, Int.reduceLE, Int.reduceEq, reduceCtorEq, Int.natCast_zero, Int.natCast_one, Int.cast_ofNat_Int, Bool.not_not, false_eq_decide, true_eq_decide, hread0, hreadk, read_cons0, read_consk, astore_h0, astore_hk, hget0, hgetk, hset0, hsetk, hlen, hcat, Nat.add_assoc, Nat.add_zero, Nat.zero_add, List.length_append, and_true, true_and, AV.flat, g0, get_app g0, read_get g0, read_app g0, g1, get_app g1, read_get g1, read_app g1, g1, get_app g1, read_get g1, read_app g1, astore_get g1, astore_app g1, get_set g1, get_set_app g1, read_set g1, read_set_app g1, astore_set g1, astore_set_app g1, List.set_set, hget0s, hgetks, hread0s, hreadks, List.length_set, hv1, one_solid hv1, one_cells hv1, hv2, one_solid hv2, one_cells hv2, *, -hK, -hm, -hf, -hE, -hk, -ct, -cc, -o1, -o2, -k1, -hdis, -kF, -hl1, -hin] | refine WC.call (ct _) ?_ | with_reducible refine IfB_dec (fun h => ?_) (fun h => ?_) | with_reducible refine Guard_dec (fun h => ?_) (fun h => ?_) | with_reducible refine Guard_ndec (fun h => ?_) (fun h => ?_) | with_reducible refine Guard_not (fun h => ?_) (fun h => ?_) | with_reducible refine IfB_ndec (fun h => ?_) (fun h => ?_) | with_reducible refine IfB_not (fun h => ?_) (fun h => ?_) | with_reducible refine Guard_split (fun h => ?_) (fun h => ?_) | with_reducible refine IfB_split (fun h => ?_) (fun h => ?_))
    exact hK _ _ ⟨⟨_, rfl, by rw [if_pos rfl]; exact ⟨vt, vk, rfl, o1', o2', hdis⟩⟩, kF⟩
  · rw [decide_eq_false ht] at ct
    have hin : inO o s = decide (s ∈ o.k) := by unfold inO; rw [decide_eq_false ht]; rfl
    rw [hin] at hK
    clear ht
    repeat' (first | simp only [go_sem, Nat.reduceLT, Nat.reduceEqDiff, Nat.reduceAdd, Nat.reduceMul, Nat.reduceSub, Nat.reduceLeDiff, Int.reduceToNat, Int.reduceNeg, Int.reduceLT, Int.reduceLE, Int.reduceEq, reduceCtorEq, Int.natCast_zero, Int.natCast_one, Int.cast_ofNat_Int, Bool.not_not, false_eq_decide, true_eq_decide, hread0, hreadk, read_cons0, read_consk, astore_h0, astore_hk, hget0, hgetk, hset0, hsetk, hlen, hcat, Nat.add_assoc, Nat.add_zero, Nat.zero_add, List.length_append, and_true, true_and, AV.flat, g0, get_app g0, read_get g0, read_app g0, g1, get_app g1, read_get g1, read_app g1, g1, get_app g1, read_get g1, read_app g1, astore_get g1, astore_app g1, get_set g1, get_set_app g1, read_set g1, read_set_app g1, astore_set g1, astore_set_app g1, List.set_set, hget0s, hgetks, hread0s, hreadks, List.length_set, hv1, one_solid hv1, one_cells hv1, hv2, one_solid hv2, one_cells hv2, *, -hK, -hm, -hf, -hE, -hk, -ct, -cc, -o1, -o2, -k1, -hdis, -kF, -hl1, -hin] | refine WC.call (ct _) ?_ | refine WC.call (cc _) ?_ | with_reducible refine IfB_dec (fun h => ?_) (fun h => ?_) | with_reducible refine Guard_dec (fun h => ?_) (fun h => ?_) | with_reducible refine Guard_ndec (fun h => ?_) (fun h => ?_) | with_reducible refine Guard_not (fun h => ?_) (fun h => ?_) | with_reducible refine IfB_ndec (fun h => ?_) (fun h => ?_) | with_reducible refine IfB_not (fun h => ?_) (fun h => ?_) | with_reducible refine Guard_split (fun h => ?_) (fun h => ?_) | with_reducible refine IfB_split (fun h => ?_) (fun h => ?_))
    exact hK _ _ ⟨⟨_, rfl, by rw [if_pos rfl]; exact ⟨vt, vk, rfl, o1', o2', hdis⟩⟩, kF⟩
end Go.Proofs.Ytakllaigpjbgdaa
