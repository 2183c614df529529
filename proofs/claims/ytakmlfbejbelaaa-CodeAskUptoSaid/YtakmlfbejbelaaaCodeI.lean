import Derived.Test.YtakmlfbejbelaaaCodeH
set_option linter.unusedSimpArgs false
set_option linter.unusedVariables false
set_option maxRecDepth 100000
set_option maxHeartbeats 2000000
namespace Go.Proofs.Ytakmlfbejbelaaa
open Go Go.Proofs Go.Proofs.PI
/-! ### readers -/
def RS.blk (s : RS) : Blk := ⟨[Enc.u8.lst s.l, .bool s.bad], 0, .full⟩
theorem wide_spec (p : Nat) (l : List UInt8) (bad : Bool) (hl : l.length ≤ 140737488355328) (H : Heap) (hb : H[p]? = some ⟨[Enc.u8.lst l, .bool bad], 0, .full⟩) :
    WC Try.prog 50 [.ptr p 0] H fun r H' => r = .int .u64 (wideS ⟨l, bad⟩).1 ∧ H' = List.set H p (wideS ⟨l, bad⟩).2.blk := by
  refine WC_of_K fun K hK => ?_
  have rp := fun J => readP l hl J
  cases hr : rd 0 l with
  | none =>
    have e : wideS ⟨l, bad⟩ = (0, ⟨l, true⟩) := by unfold wideS; simp only [hr]
    have s0 := fun J => slice_enc (H := J) (E := Enc.u8) (xs := l) (l := 0) (u := l.length) (lo := some (.int .i64 0)) (hi := none) se30 (abound_nat 0 rfl) rfl (by omega) (by omega)
    simp only [List.take_length, List.drop_zero] at s0
    rw [e] at hK
    rw [hr] at rp
    unfold rdV at rp
    refine WC_of_body hT Try.func50 rfl (by simp [Try.f50]) (by simp [Try.f50]) (wx_sound hT _ ?_)
    simp only [Try.f50]
    cases bad
    all_goals
      repeat' (first | simp only [go_sem, Nat.reduceLT, Nat.reduceEqDiff, Nat.reduceAdd, Nat.reduceMul, Nat.reduceSub, Nat.reduceLeDiff, Int.reduceToNat, Int.reduceNeg, Int.reduceLT, Int.reduceLE, Int.reduceEq, reduceCtorEq, Int.natCast_zero, Int.natCast_one, Int.cast_ofNat_Int, Bool.not_not, false_eq_decide, true_eq_decide, hread0, hreadk, read_cons0, read_consk, astore_h0, astore_hk, hget0, hgetk, hset0, hsetk, hlen, hcat, Nat.add_assoc, Nat.add_zero, Nat.zero_add, List.length_append, and_true, true_and, AV.flat, hb, get_app hb, read_get hb, read_app hb, astore_get hb, astore_app hb, get_set hb, get_set_app hb, read_set hb, read_set_app hb, astore_set hb, astore_set_app hb, List.set_set, hget0s, hgetks, hread0s, hreadks, List.length_set, *, -hK, -rp] | refine WC.call (rp _) ?_ | with_reducible refine IfB_dec (fun h => ?_) (fun h => ?_) | with_reducible refine Guard_dec (fun h => ?_) (fun h => ?_) | with_reducible refine Guard_ndec (fun h => ?_) (fun h => ?_) | with_reducible refine Guard_not (fun h => ?_) (fun h => ?_) | with_reducible refine IfB_ndec (fun h => ?_) (fun h => ?_) | with_reducible refine IfB_not (fun h => ?_) (fun h => ?_) | with_reducible refine Guard_split (fun h => ?_) (fun h => ?_) | with_reducible refine IfB_split (fun h => ?_) (fun h => ?_))
      exact hK _ _ ⟨rfl, rfl⟩
  | some q =>
    obtain ⟨n, k⟩ := q
    have h64 := rd_lt64 hr
    have hk := rd_len l 0 hr
    simp only at h64 hk
    have e : wideS ⟨l, bad⟩ = (n, ⟨l.drop k, bad⟩) := by unfold wideS; simp only [hr]
    have s0 := fun J => slice_enc (H := J) (E := Enc.u8) (xs := l) (l := k) (u := l.length) (lo := some (.int .i64 k)) (hi := none) se30 (abound_nat k rfl) rfl (by omega) (by omega)
    simp only [List.take_length] at s0
    rw [e] at hK
    rw [hr] at rp
    unfold rdV at rp
    refine WC_of_body hT Try.func50 rfl (by simp [Try.f50]) (by simp [Try.f50]) (wx_sound hT _ ?_)
    simp only [Try.f50]
    cases bad
    all_goals
      repeat' (first | simp only [go_sem, Nat.reduceLT, Nat.reduceEqDiff, Nat.reduceAdd, Nat.reduceMul, Nat.reduceSub, Nat.reduceLeDiff, Int.reduceToNat, Int.reduceNeg, Int.reduceLT, Int.reduceLE, Int.reduceEq, reduceCtorEq, Int.natCast_zero, Int.natCast_one, Int.cast_ofNat_Int, Bool.not_not, false_eq_decide, true_eq_decide, hread0, hreadk, read_cons0, read_consk, astore_h0, astore_hk, hget0, hgetk, hset0, hsetk, hlen, hcat, Nat.add_assoc, Nat.add_zero, Nat.zero_add, List.length_append, and_true, true_and, AV.flat, hb, get_app hb, read_get hb, read_app hb, astore_get hb, astore_app hb, get_set hb, get_set_app hb, read_set hb, read_set_app hb, astore_set hb, astore_set_app hb, List.set_set, hget0s, hgetks, hread0s, hreadks, List.length_set, *, -hK, -rp] | refine WC.call (rp _) ?_ | with_reducible refine IfB_dec (fun h => ?_) (fun h => ?_) | with_reducible refine Guard_dec (fun h => ?_) (fun h => ?_) | with_reducible refine Guard_ndec (fun h => ?_) (fun h => ?_) | with_reducible refine Guard_not (fun h => ?_) (fun h => ?_) | with_reducible refine IfB_ndec (fun h => ?_) (fun h => ?_) | with_reducible refine IfB_not (fun h => ?_) (fun h => ?_) | with_reducible refine Guard_split (fun h => ?_) (fun h => ?_) | with_reducible refine IfB_split (fun h => ?_) (fun h => ?_))
      exact hK _ _ ⟨rfl, rfl⟩
theorem num_spec (p m : Nat) (hm : m < 2 ^ 62) (l : List UInt8) (bad : Bool) (hl : l.length ≤ 140737488355328) (H : Heap) (hb : H[p]? = some ⟨[Enc.u8.lst l, .bool bad], 0, .full⟩) :
    WC Try.prog 48 [.ptr p 0, .int .i64 m] H fun r H' => r = .int .i64 (numS m ⟨l, bad⟩).1 ∧ H' = List.set H p (numS m ⟨l, bad⟩).2.blk := by
  refine WC_of_K fun K hK => ?_
  have hw := fun J h => wide_spec p l bad hl J h
  have hle := numS_le m ⟨l, bad⟩
  have hlt := wideS_lt ⟨l, bad⟩
  unfold numS at hK hle
  generalize wideS ⟨l, bad⟩ = q at *
  obtain ⟨n, l2, b2⟩ := q
  simp only [RS.blk] at hw hK hle hlt
  have hmu : IntKind.u64.wrap m = m := by rw [IntKind.wrap_u64]; omega
  by_cases hc : n > m
  · rw [if_pos hc] at hK
    have hc' : (m : Int) < n := by omega
    refine WC_of_body hT Try.func48 rfl (by simp [Try.f48]) (by simp [Try.f48]) (wx_sound hT _ ?_)
    simp only [Try.f48]
    repeat' (first | simp only [go_sem, Nat.reduceLT, Nat.reduceEqDiff, Nat.reduceAdd, Nat.reduceMul, Nat.reduceSub, Nat.reduceLeDiff, Int.reduceToNat, Int.reduceNeg, Int.reduceLT, Int.reduceLE, Int.reduceEq, reduceCtorEq, Int.natCast_zero, Int.natCast_one, Int.cast_ofNat_Int, Bool.not_not, false_eq_decide, true_eq_decide, hread0, hreadk, read_cons0, read_consk, astore_h0, astore_hk, hget0, hgetk, hset0, hsetk, hlen, hcat, Nat.add_assoc, Nat.add_zero, Nat.zero_add, List.length_append, and_true, true_and, AV.flat, hb, get_app hb, read_get hb, read_app hb, astore_get hb, astore_app hb, get_set hb, get_set_app hb, read_set hb, read_set_app hb, astore_set hb, astore_set_app hb, List.set_set, hget0s, hgetks, hread0s, hreadks, List.length_set, *, -hK, -hw] | refine WC.call (hw _ hb) ?_ | with_reducible refine IfB_dec (fun h => ?_) (fun h => ?_) | with_reducible refine Guard_dec (fun h => ?_) (fun h => ?_) | with_reducible refine Guard_ndec (fun h => ?_) (fun h => ?_) | with_reducible refine Guard_not (fun h => ?_) (fun h => ?_) | with_reducible refine IfB_ndec (fun h => ?_) (fun h => ?_) | with_reducible refine IfB_not (fun h => ?_) (fun h => ?_) | with_reducible refine Guard_split (fun h => ?_) (fun h => ?_) | with_reducible refine IfB_split (fun h => ?_) (fun h => ?_))
    exact hK _ _ ⟨rfl, rfl⟩
  · rw [if_neg hc] at hK
    have hc' : ¬ (m : Int) < n := by omega
    have hn : IntKind.i64.wrap n = n := by rw [IntKind.wrap_i64]; omega
    refine WC_of_body hT Try.func48 rfl (by simp [Try.f48]) (by simp [Try.f48]) (wx_sound hT _ ?_)
    simp only [Try.f48]
    repeat' (first | simp only [go_sem, Nat.reduceLT, Nat.reduceEqDiff, Nat.reduceAdd, Nat.reduceMul, Nat.reduceSub, Nat.reduceLeDiff, Int.reduceToNat, Int.reduceNeg, Int.reduceLT, Int.reduceLE, Int.reduceEq, reduceCtorEq, Int.natCast_zero, Int.natCast_one, Int.cast_ofNat_Int, Bool.not_not, false_eq_decide, true_eq_decide, hread0, hreadk, read_cons0, read_consk, astore_h0, astore_hk, hget0, hgetk, hset0, hsetk, hlen, hcat, Nat.add_assoc, Nat.add_zero, Nat.zero_add, List.length_append, and_true, true_and, AV.flat, hb, get_app hb, read_get hb, read_app hb, astore_get hb, astore_app hb, get_set hb, get_set_app hb, read_set hb, read_set_app hb, astore_set hb, astore_set_app hb, List.set_set, hget0s, hgetks, hread0s, hreadks, List.length_set, *, -hK, -hw] | refine WC.call (hw _ hb) ?_ | with_reducible refine IfB_dec (fun h => ?_) (fun h => ?_) | with_reducible refine Guard_dec (fun h => ?_) (fun h => ?_) | with_reducible refine Guard_ndec (fun h => ?_) (fun h => ?_) | with_reducible refine Guard_not (fun h => ?_) (fun h => ?_) | with_reducible refine IfB_ndec (fun h => ?_) (fun h => ?_) | with_reducible refine IfB_not (fun h => ?_) (fun h => ?_) | with_reducible refine Guard_split (fun h => ?_) (fun h => ?_) | with_reducible refine IfB_split (fun h => ?_) (fun h => ?_))
    exact hK _ _ ⟨rfl, rfl⟩
theorem rtext_spec (p : Nat) (l : List UInt8) (bad : Bool) (hl : l.length ≤ 140737488355328) (H : Heap) (hb : H[p]? = some ⟨[Enc.u8.lst l, .bool bad], 0, .full⟩) :
    WC Try.prog 49 [.ptr p 0] H fun r H' => r = .str (textS ⟨l, bad⟩).1 ∧ H' = List.set H p (textS ⟨l, bad⟩).2.blk := by
  refine WC_of_K fun K hK => ?_
  have rp := fun J => cutInP l hl J
  have se := fun (H : Heap) (l : List UInt8) => str_enc (T := T) (H := H) (l := l) se30 tk9 tk5
  cases hr : cutL l with
  | none =>
    have e : textS ⟨l, bad⟩ = ([], ⟨l, true⟩) := by unfold textS; simp only [hr]
    rw [e] at hK
    rw [hr] at rp
    simp only at rp
    refine WC_of_body hT Try.func49 rfl (by simp [Try.f49]) (by simp [Try.f49]) (wx_sound hT _ ?_)
    simp only [Try.f49]
    repeat' (first | simp only [go_sem, Nat.reduceLT, Nat.reduceEqDiff, Nat.reduceAdd, Nat.reduceMul, Nat.reduceSub, Nat.reduceLeDiff, Int.reduceToNat, Int.reduceNeg, Int.reduceLT, Int.reduceLE, Int.reduceEq, reduceCtorEq, Int.natCast_zero, Int.natCast_one, Int.cast_ofNat_Int, Bool.not_not, false_eq_decide, true_eq_decide, hread0, hreadk, read_cons0, read_consk, astore_h0, astore_hk, hget0, hgetk, hset0, hsetk, hlen, hcat, Nat.add_assoc, Nat.add_zero, Nat.zero_add, List.length_append, and_true, true_and, AV.flat, hb, get_app hb, read_get hb, read_app hb, astore_get hb, astore_app hb, get_set hb, get_set_app hb, read_set hb, read_set_app hb, astore_set hb, astore_set_app hb, List.set_set, hget0s, hgetks, hread0s, hreadks, List.length_set, *, -hK, -rp] | refine WC.call (rp _) ?_ | with_reducible refine IfB_dec (fun h => ?_) (fun h => ?_) | with_reducible refine Guard_dec (fun h => ?_) (fun h => ?_) | with_reducible refine Guard_ndec (fun h => ?_) (fun h => ?_) | with_reducible refine Guard_not (fun h => ?_) (fun h => ?_) | with_reducible refine IfB_ndec (fun h => ?_) (fun h => ?_) | with_reducible refine IfB_not (fun h => ?_) (fun h => ?_) | with_reducible refine Guard_split (fun h => ?_) (fun h => ?_) | with_reducible refine IfB_split (fun h => ?_) (fun h => ?_))
    exact hK _ _ ⟨rfl, rfl⟩
  | some q =>
    obtain ⟨s, t⟩ := q
    have e : textS ⟨l, bad⟩ = (s, ⟨t, bad⟩) := by unfold textS; simp only [hr]
    rw [e] at hK
    rw [hr] at rp
    simp only at rp
    refine WC_of_body hT Try.func49 rfl (by simp [Try.f49]) (by simp [Try.f49]) (wx_sound hT _ ?_)
    simp only [Try.f49]
    repeat' (first | simp only [go_sem, Nat.reduceLT, Nat.reduceEqDiff, Nat.reduceAdd, Nat.reduceMul, Nat.reduceSub, Nat.reduceLeDiff, Int.reduceToNat, Int.reduceNeg, Int.reduceLT, Int.reduceLE, Int.reduceEq, reduceCtorEq, Int.natCast_zero, Int.natCast_one, Int.cast_ofNat_Int, Bool.not_not, false_eq_decide, true_eq_decide, hread0, hreadk, read_cons0, read_consk, astore_h0, astore_hk, hget0, hgetk, hset0, hsetk, hlen, hcat, Nat.add_assoc, Nat.add_zero, Nat.zero_add, List.length_append, and_true, true_and, AV.flat, hb, get_app hb, read_get hb, read_app hb, astore_get hb, astore_app hb, get_set hb, get_set_app hb, read_set hb, read_set_app hb, astore_set hb, astore_set_app hb, List.set_set, hget0s, hgetks, hread0s, hreadks, List.length_set, *, -hK, -rp] | refine WC.call (rp _) ?_ | with_reducible refine IfB_dec (fun h => ?_) (fun h => ?_) | with_reducible refine Guard_dec (fun h => ?_) (fun h => ?_) | with_reducible refine Guard_ndec (fun h => ?_) (fun h => ?_) | with_reducible refine Guard_not (fun h => ?_) (fun h => ?_) | with_reducible refine IfB_ndec (fun h => ?_) (fun h => ?_) | with_reducible refine IfB_not (fun h => ?_) (fun h => ?_) | with_reducible refine Guard_split (fun h => ?_) (fun h => ?_) | with_reducible refine IfB_split (fun h => ?_) (fun h => ?_))
    exact hK _ _ ⟨rfl, rfl⟩
theorem rbyte_spec (p : Nat) (l : List UInt8) (bad : Bool) (hl : l.length ≤ 140737488355328) (H : Heap) (hb : H[p]? = some ⟨[Enc.u8.lst l, .bool bad], 0, .full⟩) :
    WC Try.prog 47 [.ptr p 0] H fun r H' => r = .int .u8 (byteS ⟨l, bad⟩).1.toNat ∧ H' = List.set H p (byteS ⟨l, bad⟩).2.blk := by
  refine WC_of_K fun K hK => ?_
  cases l with
  | nil =>
    have e : byteS ⟨[], bad⟩ = (0, ⟨[], true⟩) := rfl
    rw [e] at hK
    refine WC_of_body hT Try.func47 rfl (by simp [Try.f47]) (by simp [Try.f47]) (wx_sound hT _ ?_)
    simp only [Try.f47]
    repeat' (first | simp only [go_sem, Nat.reduceLT, Nat.reduceEqDiff, Nat.reduceAdd, Nat.reduceMul, Nat.reduceSub, Nat.reduceLeDiff, Int.reduceToNat, Int.reduceNeg, Int.reduceLT, Int.reduceLE, Int.reduceEq, reduceCtorEq, Int.natCast_zero, Int.natCast_one, Int.cast_ofNat_Int, Bool.not_not, false_eq_decide, true_eq_decide, hread0, hreadk, read_cons0, read_consk, astore_h0, astore_hk, hget0, hgetk, hset0, hsetk, hlen, hcat, Nat.add_assoc, Nat.add_zero, Nat.zero_add, List.length_append, and_true, true_and, AV.flat, hb, get_app hb, read_get hb, read_app hb, astore_get hb, astore_app hb, get_set hb, get_set_app hb, read_set hb, read_set_app hb, astore_set hb, astore_set_app hb, List.set_set, hget0s, hgetks, hread0s, hreadks, List.length_set, *, -hK] | with_reducible refine IfB_dec (fun h => ?_) (fun h => ?_) | with_reducible refine Guard_dec (fun h => ?_) (fun h => ?_) | with_reducible refine Guard_ndec (fun h => ?_) (fun h => ?_) | with_reducible refine Guard_not (fun h => ?_) (fun h => ?_) | with_reducible refine IfB_ndec (fun h => ?_) (fun h => ?_) | with_reducible refine IfB_not (fun h => ?_) (fun h => ?_) | with_reducible refine Guard_split (fun h => ?_) (fun h => ?_) | with_reducible refine IfB_split (fun h => ?_) (fun h => ?_))
    exact hK _ _ ⟨rfl, rfl⟩
  | cons x l =>
    have e : byteS ⟨x :: l, bad⟩ = (x, ⟨l, bad⟩) := rfl
    rw [e] at hK
    have hn : ¬ ((x :: l).length : Int) = 0 := by simp; omega
    have e1 : aindexAddr T 30 (Enc.u8.lst (x :: l)) (.int .i64 0) = some (.cptr (Enc.u8.cells x)) := at_enc (E := Enc.u8) (T := T) (xs := x :: l) se30 (i := 0) (by simp) (k := .i64) (z := 0) rfl
    have s0 : ∀ J, aslice T J 30 (Enc.u8.lst (x :: l)) (some (.int .i64 1)) none none = some (Enc.u8.lst l) := fun J => by
      have := slice_enc (H := J) (E := Enc.u8) (xs := x :: l) (l := 1) (u := (x :: l).length) (lo := some (.int .i64 1)) (hi := none) se30 (abound_nat 1 rfl) rfl (by simp) (by simp)
      rw [List.take_length] at this
      exact this
    generalize hg : (x :: l) = xl at *
    refine WC_of_body hT Try.func47 rfl (by simp [Try.f47]) (by simp [Try.f47]) (wx_sound hT _ ?_)
    simp only [Try.f47]
    repeat' (first | simp only [go_sem, Nat.reduceLT, Nat.reduceEqDiff, Nat.reduceAdd, Nat.reduceMul, Nat.reduceSub, Nat.reduceLeDiff, Int.reduceToNat, Int.reduceNeg, Int.reduceLT, Int.reduceLE, Int.reduceEq, reduceCtorEq, Int.natCast_zero, Int.natCast_one, Int.cast_ofNat_Int, Bool.not_not, false_eq_decide, true_eq_decide, hread0, hreadk, read_cons0, read_consk, astore_h0, astore_hk, hget0, hgetk, hset0, hsetk, hlen, hcat, Nat.add_assoc, Nat.add_zero, Nat.zero_add, List.length_append, and_true, true_and, AV.flat, hb, get_app hb, read_get hb, read_app hb, astore_get hb, astore_app hb, get_set hb, get_set_app hb, read_set hb, read_set_app hb, astore_set hb, astore_set_app hb, List.set_set, hget0s, hgetks, hread0s, hreadks, List.length_set, u8_cells, *, -hK, -hg] | with_reducible refine IfB_dec (fun h => ?_) (fun h => ?_) | with_reducible refine Guard_dec (fun h => ?_) (fun h => ?_) | with_reducible refine Guard_ndec (fun h => ?_) (fun h => ?_) | with_reducible refine Guard_not (fun h => ?_) (fun h => ?_) | with_reducible refine IfB_ndec (fun h => ?_) (fun h => ?_) | with_reducible refine IfB_not (fun h => ?_) (fun h => ?_) | with_reducible refine Guard_split (fun h => ?_) (fun h => ?_) | with_reducible refine IfB_split (fun h => ?_) (fun h => ?_))
    exact hK _ _ ⟨rfl, rfl⟩
end Go.Proofs.Ytakmlfbejbelaaa
