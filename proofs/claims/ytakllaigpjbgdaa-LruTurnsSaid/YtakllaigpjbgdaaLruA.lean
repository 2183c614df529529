import Derived.Test.YtakllaigpjbgdaaLruTd
import Derived.Test.YtakllaigpjbgdaaPiSem
import Derived.Test.YtakllaigpjbgdaaPiV
import Derived.Test.YtakllaigpjbgdaaPiYa
import Derived.Test.YtakllaigpjbgdaaPiYb
import Derived.Test.YtakllaigpjbgdaaPiW
set_option linter.unusedSimpArgs false
set_option linter.unusedVariables false
set_option maxRecDepth 100000
set_option maxHeartbeats 4000000
namespace Go.Proofs.Ytakllaigpjbgdaa
open Go Go.Proofs Go.Proofs.PI
theorem i64_id (x : Int) (h0 : -9223372036854775808 ≤ x) (h1 : x < 9223372036854775808) : IntKind.i64.wrap x = x := by
  rw [IntKind.wrap_i64]; omega
theorem inc_id {i n : Nat} (h : i < n) (hn : n ≤ 140737488355328) : IntKind.i64.wrap ((i : Int) + 1) = ((i + 1 : Nat) : Int) := by
  rw [IntKind.wrap_i64]; omega
/-! ### orders -/
theorem str_cells (x : List UInt8) : Enc.str.cells x = [.str x] := rfl
structure Ord where
  t : List (List UInt8)
  k : List (List UInt8)
def Ord.av (o : Ord) : AV := .agg [Enc.str.lst o.t, Enc.str.lst o.k]
def Ord.fit (o : Ord) : Prop := o.t.length ≤ 1000 ∧ o.k.length ≤ 1000
def kOk (s : List UInt8) : Bool := decide (1 ≤ s.length ∧ s.length ≤ 32)
def goodL (l : List (List UInt8)) : Prop := (∀ s ∈ l, kOk s = true) ∧ l.Nodup
instance (l : List (List UInt8)) : Decidable (goodL l) := by unfold goodL; infer_instance
def halfN (o : Ord) : Nat := (o.t.length + o.k.length + 1) / 2
def Ord.may (o : Ord) : Prop := o.t.length + o.k.length ≤ 256 ∧ o.k.length ≤ halfN o ∧ goodL (o.t ++ o.k)
instance (o : Ord) : Decidable o.may := by unfold Ord.may; infer_instance
def ordE (o : Ord) : Int := if o.may then 0 else 8
theorem ordE_ok {o : Ord} (h : o.may) : ordE o = 0 := if_pos h
theorem ordE_bad {o : Ord} (h : ¬ o.may) : ordE o = 8 := if_neg h
theorem goodL_take {l : List (List UInt8)} (h : goodL l) (n : Nat) : goodL (l.take n) :=
  ⟨fun s hs => h.1 s (List.mem_of_mem_take hs), h.2.sublist (List.take_sublist _ _)⟩
theorem goodL_snoc {l : List (List UInt8)} {s : List UInt8} (h : goodL l) (h1 : kOk s = true) (h2 : s ∉ l) : goodL (l ++ [s]) := by
  refine ⟨fun x hx => ?_, ?_⟩
  · rcases List.mem_append.1 hx with hx | hx
    · exact h.1 x hx
    · rw [List.mem_singleton.1 hx]; exact h1
  · rw [List.nodup_append]
    exact ⟨h.2, by simp, fun a ha b hb e => by rw [List.mem_singleton.1 hb] at e; exact h2 (e ▸ ha)⟩
theorem keyed_spec (s : List UInt8) (H : Heap) : WC Try.prog 31 [.str s] H fun r H' => r = .bool (kOk s) ∧ H' = H := by
  refine WC_of_K fun K hK => ?_
  unfold kOk at hK
  by_cases h0 : s = []
  · subst h0
    rw [show decide _ = false from rfl] at hK
    refine WC_of_body hT Try.func31 rfl (by simp [Try.f31]) (by simp [Try.f31]) (wx_sound hT _ ?_)
    simp only [Try.f31]
    repeat' (first | simp only [go_sem, Nat.reduceLT, Nat.reduceEqDiff, Nat.reduceAdd, Nat.reduceMul, Nat.reduceSub, Nat.reduceLeDiff, Int.reduceToNat, Int.reduceNeg, Int.reduceLT, Int.reduceLE, Int.reduceEq, reduceCtorEq, Int.natCast_zero, Int.natCast_one, Int.cast_ofNat_Int, Bool.not_not, false_eq_decide, true_eq_decide, hread0, hreadk, read_cons0, read_consk, astore_h0, astore_hk, hget0, hgetk, hset0, hsetk, hlen, hcat, Nat.add_assoc, Nat.add_zero, Nat.zero_add, List.length_append, and_true, true_and, AV.flat, *, -hK] | with_reducible refine IfB_dec (fun h => ?_) (fun h => ?_) | with_reducible refine Guard_dec (fun h => ?_) (fun h => ?_) | with_reducible refine Guard_ndec (fun h => ?_) (fun h => ?_) | with_reducible refine Guard_not (fun h => ?_) (fun h => ?_) | with_reducible refine IfB_ndec (fun h => ?_) (fun h => ?_) | with_reducible refine IfB_not (fun h => ?_) (fun h => ?_) | with_reducible refine Guard_split (fun h => ?_) (fun h => ?_) | with_reducible refine IfB_split (fun h => ?_) (fun h => ?_))
    exact hK _ _ ⟨rfl, rfl⟩
  · have hl : 1 ≤ s.length := List.length_pos_iff.2 h0
    rw [show decide (1 ≤ s.length ∧ s.length ≤ 32) = decide ((s.length : Int) ≤ 32) by rw [decide_eq_decide]; omega] at hK
    refine WC_of_body hT Try.func31 rfl (by simp [Try.f31]) (by simp [Try.f31]) (wx_sound hT _ ?_)
    simp only [Try.f31]
    repeat' (first | simp only [go_sem, Nat.reduceLT, Nat.reduceEqDiff, Nat.reduceAdd, Nat.reduceMul, Nat.reduceSub, Nat.reduceLeDiff, Int.reduceToNat, Int.reduceNeg, Int.reduceLT, Int.reduceLE, Int.reduceEq, reduceCtorEq, Int.natCast_zero, Int.natCast_one, Int.cast_ofNat_Int, Bool.not_not, false_eq_decide, true_eq_decide, hread0, hreadk, read_cons0, read_consk, astore_h0, astore_hk, hget0, hgetk, hset0, hsetk, hlen, hcat, Nat.add_assoc, Nat.add_zero, Nat.zero_add, List.length_append, and_true, true_and, AV.flat, *, -hK, -hl] | with_reducible refine IfB_dec (fun h => ?_) (fun h => ?_) | with_reducible refine Guard_dec (fun h => ?_) (fun h => ?_) | with_reducible refine Guard_ndec (fun h => ?_) (fun h => ?_) | with_reducible refine Guard_not (fun h => ?_) (fun h => ?_) | with_reducible refine IfB_ndec (fun h => ?_) (fun h => ?_) | with_reducible refine IfB_not (fun h => ?_) (fun h => ?_) | with_reducible refine Guard_split (fun h => ?_) (fun h => ?_) | with_reducible refine IfB_split (fun h => ?_) (fun h => ?_))
    exact hK _ _ ⟨rfl, rfl⟩
theorem half_spec (o : Ord) (h : o.fit) (H : Heap) : WC Try.prog 30 [o.av] H fun r H' => r = .int .i64 (halfN o) ∧ H' = H := by
  refine WC_val fun K hK => ?_
  obtain ⟨t, k⟩ := o
  obtain ⟨h1, h2⟩ := h
  simp only at h1 h2
  unfold Ord.av
  simp only
  have w1 : IntKind.i64.wrap ((t.length : Int) + k.length) = (t.length : Int) + k.length := by rw [IntKind.wrap_i64]; omega
  have w2 : IntKind.i64.wrap ((t.length : Int) + k.length + 1) = (t.length : Int) + k.length + 1 := by rw [IntKind.wrap_i64]; omega
  have w3 : Int.tdiv ((t.length : Int) + k.length + 1) 2 = ((t.length + k.length + 1) / 2 : Nat) := by
    rw [show (t.length : Int) + k.length + 1 = ((t.length + k.length + 1 : Nat) : Int) by omega]
    exact (Int.ofNat_tdiv _ _).symm
  have w4 : IntKind.i64.wrap (((t.length + k.length + 1) / 2 : Nat) : Int) = ((t.length + k.length + 1) / 2 : Nat) := by rw [IntKind.wrap_i64]; omega
  unfold halfN at hK
  simp only at hK
  generalize (t.length + k.length + 1) / 2 = m at *
  refine WC_of_body hT Try.func30 rfl (by simp [Try.f30]) (by simp [Try.f30]) (wx_sound hT _ ?_)
  simp only [Try.f30]
  repeat' (first | simp only [go_sem, Nat.reduceLT, Nat.reduceEqDiff, Nat.reduceAdd, Nat.reduceMul, Nat.reduceSub, Nat.reduceLeDiff, Int.reduceToNat, Int.reduceNeg, Int.reduceLT, Int.reduceLE, Int.reduceEq, reduceCtorEq, Int.natCast_zero, Int.natCast_one, Int.cast_ofNat_Int, Bool.not_not, false_eq_decide, true_eq_decide, hread0, hreadk, read_cons0, read_consk, astore_h0, astore_hk, hget0, hgetk, hset0, hsetk, hlen, hcat, Nat.add_assoc, Nat.add_zero, Nat.zero_add, List.length_append, and_true, true_and, AV.flat, *, -hK] | with_reducible refine IfB_dec (fun h => ?_) (fun h => ?_) | with_reducible refine Guard_dec (fun h => ?_) (fun h => ?_) | with_reducible refine Guard_ndec (fun h => ?_) (fun h => ?_) | with_reducible refine Guard_not (fun h => ?_) (fun h => ?_) | with_reducible refine IfB_ndec (fun h => ?_) (fun h => ?_) | with_reducible refine IfB_not (fun h => ?_) (fun h => ?_) | with_reducible refine Guard_split (fun h => ?_) (fun h => ?_) | with_reducible refine IfB_split (fun h => ?_) (fun h => ?_))
  exact hK _ _ (.int _ _) (Keep.app _ _ _)
def o2 (t k : List (List UInt8)) (i : Nat) : Nat := if i = 0 then 0 else if i = 1 then t.length else t.length + k.length
theorem mapTy (t : TypeId) (kt et : TypeId) (h1 : Try.prog.underlying t = some (.map kt et)) (h2 : Try.prog.underlying kt = some .string) (h3 : ∀ w, (zeroValue et).run Try.prog w = .ok (.bool false) w) : MapTy Try.prog t := ⟨kt, et, h1, h2, h3⟩
theorem upd3 (A C : Blk) (hA : noMap [A, C] = true) (ks : List (List UInt8)) (s : List UInt8) (h : s ∉ ks) : amapUpd [A, ⟨ks.map AV.str, 0, .mp⟩, C] (.mp 1) (.str s) (.bool true) = some [A, ⟨(ks ++ [s]).map AV.str, 0, .mp⟩, C] := by
  unfold amapUpd
  simp only [List.getElem?_cons_succ, List.getElem?_cons_zero, hasKey_strs, decide_eq_false h, List.set_cons_succ, List.set_cons_zero, true_and]
  rw [if_pos ?_, List.map_append]
  · rfl
  · unfold noMap at hA ⊢
    simp only [List.all_cons, List.all_nil, Bool.and_true, Bool.true_and] at hA ⊢
    exact hA
theorem look3 (A C : Blk) (ks : List (List UInt8)) (s : List UInt8) : alookup [A, ⟨ks.map AV.str, 0, .mp⟩, C] (.mp 1) (.str s) = some (.bool (decide (s ∈ ks))) := by
  unfold alookup
  simp only [List.getElem?_cons_succ, List.getElem?_cons_zero, hasKey_strs]
theorem check_spec (o : Ord) (h : o.fit) (H : Heap) : WC Try.prog 11 [o.av] H fun r H' => r = .int .i64 (ordE o) ∧ H' = H := by
  refine WC_up rfl ?_ H
  refine WC_val fun K hK => ?_
  have hf := fun J => half_spec o h J
  have hfit := h
  obtain ⟨t, k⟩ := o
  obtain ⟨h1, h2⟩ := h
  simp only at h1 h2
  unfold Ord.av at *
  simp only at hf ⊢
  have w1 : IntKind.i64.wrap ((t.length : Int) + k.length) = (t.length : Int) + k.length := by rw [IntKind.wrap_i64]; omega
  have hhalf : halfN ⟨t, k⟩ = (t.length + k.length + 1) / 2 := rfl
  generalize halfN ⟨t, k⟩ = m at *
  by_cases q1 : (t.length : Int) + k.length > 256
  · rw [ordE_bad fun h => by have := h.1; simp only at this; omega] at hK
    refine WC_of_body hT Try.func11 rfl (by simp [Try.f11]) (by simp [Try.f11]) (wx_sound hT _ ?_)
    simp only [Try.f11]
    repeat' (first | simp only [go_sem, Nat.reduceLT, Nat.reduceEqDiff, Nat.reduceAdd, Nat.reduceMul, Nat.reduceSub, Nat.reduceLeDiff, Int.reduceToNat, Int.reduceNeg, Int.reduceLT, Int.reduceLE, Int.reduceEq, reduceCtorEq, Int.natCast_zero, Int.natCast_one, Int.cast_ofNat_Int, Bool.not_not, false_eq_decide, true_eq_decide, hread0, hreadk, read_cons0, read_consk, astore_h0, astore_hk, hget0, hgetk, hset0, hsetk, hlen, hcat, Nat.add_assoc, Nat.add_zero, Nat.zero_add, List.length_append, and_true, true_and, AV.flat, *, -hK, -hfit, -hhalf] | with_reducible refine IfB_dec (fun h => ?_) (fun h => ?_) | with_reducible refine Guard_dec (fun h => ?_) (fun h => ?_) | with_reducible refine Guard_ndec (fun h => ?_) (fun h => ?_) | with_reducible refine Guard_not (fun h => ?_) (fun h => ?_) | with_reducible refine IfB_ndec (fun h => ?_) (fun h => ?_) | with_reducible refine IfB_not (fun h => ?_) (fun h => ?_) | with_reducible refine Guard_split (fun h => ?_) (fun h => ?_) | with_reducible refine IfB_split (fun h => ?_) (fun h => ?_))
    refine WX_rows hT hmix [(0, none), (1, none), (2, none), (3, none), (4, none), (5, none), (6, none), (7, none), (8, none), (9, none), (10, none), (11, none), (12, none), (13, some [true, false, false, false, true, true, true, true, true, true, true, true, true]), (14, none), (15, none)] (by kernel_rfl) ?_
    repeat' (first | simp only [go_sem, Nat.reduceLT, Nat.reduceEqDiff, Nat.reduceAdd, Nat.reduceMul, Nat.reduceSub, Nat.reduceLeDiff, Int.reduceToNat, Int.reduceNeg, Int.reduceLT, Int.reduceLE, Int.reduceEq, reduceCtorEq, Int.natCast_zero, Int.natCast_one, Int.cast_ofNat_Int, Bool.not_not, false_eq_decide, true_eq_decide, hread0, hreadk, read_cons0, read_consk, astore_h0, astore_hk, hget0, hgetk, hset0, hsetk, hlen, hcat, Nat.add_assoc, Nat.add_zero, Nat.zero_add, List.length_append, and_true, true_and, AV.flat, *, -hK, -hf, -hfit, -hhalf] | refine WC.call (hf _) ?_ | with_reducible refine IfB_dec (fun h => ?_) (fun h => ?_) | with_reducible refine Guard_dec (fun h => ?_) (fun h => ?_) | with_reducible refine Guard_ndec (fun h => ?_) (fun h => ?_) | with_reducible refine Guard_not (fun h => ?_) (fun h => ?_) | with_reducible refine IfB_ndec (fun h => ?_) (fun h => ?_) | with_reducible refine IfB_not (fun h => ?_) (fun h => ?_) | with_reducible refine Guard_split (fun h => ?_) (fun h => ?_) | with_reducible refine IfB_split (fun h => ?_) (fun h => ?_))
    exact hK _ _ (.int _ _) (Keep.app _ [] _)
  by_cases q2 : (k.length : Int) > m
  · rw [ordE_bad fun h => by have := h.2.1; unfold halfN at this; simp only at this; omega] at hK
    refine WC_of_body hT Try.func11 rfl (by simp [Try.f11]) (by simp [Try.f11]) (wx_sound hT _ ?_)
    simp only [Try.f11]
    repeat' (first | simp only [go_sem, Nat.reduceLT, Nat.reduceEqDiff, Nat.reduceAdd, Nat.reduceMul, Nat.reduceSub, Nat.reduceLeDiff, Int.reduceToNat, Int.reduceNeg, Int.reduceLT, Int.reduceLE, Int.reduceEq, reduceCtorEq, Int.natCast_zero, Int.natCast_one, Int.cast_ofNat_Int, Bool.not_not, false_eq_decide, true_eq_decide, hread0, hreadk, read_cons0, read_consk, astore_h0, astore_hk, hget0, hgetk, hset0, hsetk, hlen, hcat, Nat.add_assoc, Nat.add_zero, Nat.zero_add, List.length_append, and_true, true_and, AV.flat, *, -hK, -hfit, -hhalf] | with_reducible refine IfB_dec (fun h => ?_) (fun h => ?_) | with_reducible refine Guard_dec (fun h => ?_) (fun h => ?_) | with_reducible refine Guard_ndec (fun h => ?_) (fun h => ?_) | with_reducible refine Guard_not (fun h => ?_) (fun h => ?_) | with_reducible refine IfB_ndec (fun h => ?_) (fun h => ?_) | with_reducible refine IfB_not (fun h => ?_) (fun h => ?_) | with_reducible refine Guard_split (fun h => ?_) (fun h => ?_) | with_reducible refine IfB_split (fun h => ?_) (fun h => ?_))
    refine WX_rows hT hmix [(0, none), (1, none), (2, none), (3, none), (4, none), (5, none), (6, none), (7, none), (8, none), (9, none), (10, none), (11, none), (12, none), (13, some [true, false, false, false, true, true, true, true, true, true, true, true, true]), (14, none), (15, none)] (by kernel_rfl) ?_
    repeat' (first | simp only [go_sem, Nat.reduceLT, Nat.reduceEqDiff, Nat.reduceAdd, Nat.reduceMul, Nat.reduceSub, Nat.reduceLeDiff, Int.reduceToNat, Int.reduceNeg, Int.reduceLT, Int.reduceLE, Int.reduceEq, reduceCtorEq, Int.natCast_zero, Int.natCast_one, Int.cast_ofNat_Int, Bool.not_not, false_eq_decide, true_eq_decide, hread0, hreadk, read_cons0, read_consk, astore_h0, astore_hk, hget0, hgetk, hset0, hsetk, hlen, hcat, Nat.add_assoc, Nat.add_zero, Nat.zero_add, List.length_append, and_true, true_and, AV.flat, *, -hK, -hf, -hfit, -hhalf] | refine WC.call (hf _) ?_ | with_reducible refine IfB_dec (fun h => ?_) (fun h => ?_) | with_reducible refine Guard_dec (fun h => ?_) (fun h => ?_) | with_reducible refine Guard_ndec (fun h => ?_) (fun h => ?_) | with_reducible refine Guard_not (fun h => ?_) (fun h => ?_) | with_reducible refine IfB_ndec (fun h => ?_) (fun h => ?_) | with_reducible refine IfB_not (fun h => ?_) (fun h => ?_) | with_reducible refine Guard_split (fun h => ?_) (fun h => ?_) | with_reducible refine IfB_split (fun h => ?_) (fun h => ?_))
    exact hK _ _ (.int _ _) (Keep.app _ [] _)
  refine WC_of_body hT Try.func11 rfl (by simp [Try.f11]) (by simp [Try.f11]) (wx_sound hT _ ?_)
  simp only [Try.f11]
  repeat' (first | simp only [go_sem, Nat.reduceLT, Nat.reduceEqDiff, Nat.reduceAdd, Nat.reduceMul, Nat.reduceSub, Nat.reduceLeDiff, Int.reduceToNat, Int.reduceNeg, Int.reduceLT, Int.reduceLE, Int.reduceEq, reduceCtorEq, Int.natCast_zero, Int.natCast_one, Int.cast_ofNat_Int, Bool.not_not, false_eq_decide, true_eq_decide, hread0, hreadk, read_cons0, read_consk, astore_h0, astore_hk, hget0, hgetk, hset0, hsetk, hlen, hcat, Nat.add_assoc, Nat.add_zero, Nat.zero_add, List.length_append, and_true, true_and, AV.flat, *, -hK, -hfit, -hhalf] | with_reducible refine IfB_dec (fun h => ?_) (fun h => ?_) | with_reducible refine Guard_dec (fun h => ?_) (fun h => ?_) | with_reducible refine Guard_ndec (fun h => ?_) (fun h => ?_) | with_reducible refine Guard_not (fun h => ?_) (fun h => ?_) | with_reducible refine IfB_ndec (fun h => ?_) (fun h => ?_) | with_reducible refine IfB_not (fun h => ?_) (fun h => ?_) | with_reducible refine Guard_split (fun h => ?_) (fun h => ?_) | with_reducible refine IfB_split (fun h => ?_) (fun h => ?_))
  refine WX_rows hT hmix [(0, none), (1, none), (2, none), (3, none), (4, none), (5, none), (6, none), (7, none), (8, none), (9, none), (10, none), (11, none), (12, none), (13, some [true, false, false, false, true, true, true, true, true, true, true, true, true]), (14, none), (15, none)] (by kernel_rfl) ?_
  repeat' (first | simp only [go_sem, Nat.reduceLT, Nat.reduceEqDiff, Nat.reduceAdd, Nat.reduceMul, Nat.reduceSub, Nat.reduceLeDiff, Int.reduceToNat, Int.reduceNeg, Int.reduceLT, Int.reduceLE, Int.reduceEq, reduceCtorEq, Int.natCast_zero, Int.natCast_one, Int.cast_ofNat_Int, Bool.not_not, false_eq_decide, true_eq_decide, hread0, hreadk, read_cons0, read_consk, astore_h0, astore_hk, hget0, hgetk, hset0, hsetk, hlen, hcat, Nat.add_assoc, Nat.add_zero, Nat.zero_add, List.length_append, and_true, true_and, AV.flat, *, -hK, -hf, -hfit, -hhalf] | refine WC.call (hf _) ?_ | with_reducible refine IfB_dec (fun h => ?_) (fun h => ?_) | with_reducible refine Guard_dec (fun h => ?_) (fun h => ?_) | with_reducible refine Guard_ndec (fun h => ?_) (fun h => ?_) | with_reducible refine Guard_not (fun h => ?_) (fun h => ?_) | with_reducible refine IfB_ndec (fun h => ?_) (fun h => ?_) | with_reducible refine IfB_not (fun h => ?_) (fun h => ?_) | with_reducible refine Guard_split (fun h => ?_) (fun h => ?_) | with_reducible refine IfB_split (fun h => ?_) (fun h => ?_))
  generalize hA : (⟨[Enc.str.lst t, Enc.str.lst k], 0, .full⟩ : Blk) = Ab at *
  have hC2 : ∀ i, i < 2 → ∃ (l : List (List UInt8)), (∀ M : Blk, Heap.read [Ab, M, ⟨[Enc.str.lst t, Enc.str.lst k], 1, .full⟩] 2 i 1 = some [Enc.str.lst l]) ∧ o2 t k (i + 1) = o2 t k i + l.length ∧ (∀ z (hz : z < l.length), (t ++ k)[o2 t k i + z]? = some l[z]) ∧ l.length ≤ 1000 := fun i hi => by
    have : i = 0 ∨ i = 1 := by omega
    rcases this with rfl | rfl
    · exact ⟨t, fun M => rfl, by simp [o2], fun z hz => by simp only [o2, if_pos, Nat.zero_add]; rw [List.getElem?_append_left hz, List.getElem?_eq_getElem hz], h1⟩
    · exact ⟨k, fun M => rfl, by simp [o2], fun z hz => by show (t ++ k)[t.length + z]? = some k[z]; rw [List.getElem?_append_right (by omega), Nat.add_sub_cancel_left, List.getElem?_eq_getElem hz], h2⟩
  have hC0 : noMap [Ab, ⟨[Enc.str.lst t, Enc.str.lst k], 1, .full⟩] = true := by rw [← hA]; rfl
  generalize hC : (⟨[Enc.str.lst t, Enc.str.lst k], 1, .full⟩ : Blk) = Cb at *
  have mt : MapTy Try.prog 52 := mapTy _ 9 4 (by kernel_rfl) (by kernel_rfl) (fun w => by kernel_rfl)
  have hbadT : ∀ n (hn : n < (t ++ k).length), (kOk (t ++ k)[n] = false ∨ (t ++ k)[n] ∈ (t ++ k).take n) → ordE ⟨t, k⟩ = 8 := fun n hn hb => ordE_bad fun hm => by
    obtain ⟨g1, g2⟩ : goodL (t ++ k) := hm.2.2
    rcases hb with hb | hb
    · have := g1 _ (List.getElem_mem hn); rw [this] at hb; cases hb
    · obtain ⟨a, ha, e⟩ := List.getElem_of_mem hb
      rw [List.length_take] at ha
      rw [List.getElem_take] at e
      exact List.pairwise_iff_getElem.1 g2 a n (by omega) hn (by omega) e
  have hgoodT : goodL (t ++ k) → ordE ⟨t, k⟩ = 0 := fun hg => ordE_ok ⟨by simp only; omega, by unfold halfN; simp only; omega, hg⟩
  clear hf hfit hhalf q1 q2 w1
  refine WX_loopS [3, 29, 30] (fun kn fr' J => ∃ i : Nat, kn = 2 - i ∧ i ≤ 2 ∧ fr'.get 31 = .int .i64 i ∧ J = [Ab, ⟨((t ++ k).take (o2 t k i)).map AV.str, 0, .mp⟩, Cb] ∧ goodL ((t ++ k).take (o2 t k i))) 2 ⟨0, rfl, by omega, by simp only [go_sem, Nat.reduceLT, Nat.reduceEqDiff, Nat.reduceAdd, Nat.reduceMul, Nat.reduceSub, Nat.reduceLeDiff, Int.reduceToNat, Int.reduceNeg, Int.reduceLT, Int.reduceLE, Int.reduceEq, reduceCtorEq]; rfl, rfl, by simp [o2, goodL]⟩ ?_
  rintro kn fr' J A R hA2 hs hg hR ⟨i, rfl, hi, f31, rfl, hgood⟩
  have s3 := hg 3 (by decide)
  have s29 := hg 29 (by decide)
  have s30 := hg 30 (by decide)
  simp only [Fr.get_put, Fr.get_init, List.getD_cons_zero, List.getD_cons_succ, Nat.reduceEqDiff, if_true, if_false] at s3 s29 s30
  refine wx_sound hT _ ?_
  by_cases hlt : i < 2
  rotate_left
  · have i1 : ¬ (i : Int) < 2 := by omega
    have hie : i = 2 := by omega
    subst hie
    rw [hgoodT (by rw [show o2 t k 2 = (t ++ k).length by simp [o2], List.take_length] at hgood; exact hgood)] at hK
    clear hC2 hbadT hgoodT
    repeat' (first | simp only [go_sem, Nat.reduceLT, Nat.reduceEqDiff, Nat.reduceAdd, Nat.reduceMul, Nat.reduceSub, Nat.reduceLeDiff, Int.reduceToNat, Int.reduceNeg, Int.reduceLT, Int.reduceLE, Int.reduceEq, reduceCtorEq, Int.natCast_zero, Int.natCast_one, Int.cast_ofNat_Int, Bool.not_not, false_eq_decide, true_eq_decide, hread0, hreadk, read_cons0, read_consk, astore_h0, astore_hk, hget0, hgetk, hset0, hsetk, hlen, hcat, Nat.add_assoc, Nat.add_zero, Nat.zero_add, List.length_append, and_true, true_and, AV.flat, *, -hK, -hC0, -hgood] | with_reducible refine IfB_dec (fun h => ?_) (fun h => ?_) | with_reducible refine Guard_dec (fun h => ?_) (fun h => ?_) | with_reducible refine Guard_ndec (fun h => ?_) (fun h => ?_) | with_reducible refine Guard_not (fun h => ?_) (fun h => ?_) | with_reducible refine IfB_ndec (fun h => ?_) (fun h => ?_) | with_reducible refine IfB_not (fun h => ?_) (fun h => ?_) | with_reducible refine Guard_split (fun h => ?_) (fun h => ?_) | with_reducible refine IfB_split (fun h => ?_) (fun h => ?_))
    exact hK _ _ (.int _ _) ⟨by simp, fun b hb => by simp at hb⟩
  have i1 : (i : Int) < 2 := by omega
  have e3 := inc_id hlt (by omega)
  obtain ⟨l, rd, hoff, hTl, hl1⟩ := hC2 i hlt
  have ad : aindexAddr T 53 (.sl 2 0 2 none) (.int .i64 i) = some (.ptr 2 i) := by
    simp only [aindexAddr, se53]
    rw [if_pos ⟨by omega, by omega⟩, Int.toNat_natCast, Nat.zero_add, Nat.mul_one]
  have back : ∀ fr2 J2, A fr2 → fr2.get 31 = .int .i64 ((i + 1 : Nat) : Int) → J2 = [Ab, ⟨((t ++ k).take (o2 t k i + l.length)).map AV.str, 0, .mp⟩, Cb] → goodL ((t ++ k).take (o2 t k i + l.length)) → R fr2 J2 := fun fr2 J2 ha q1 q2 q3 => hR fr2 J2 ha (2 - (i + 1)) (by omega) ⟨i + 1, rfl, by omega, q1, by rw [hoff]; exact q2, by rw [hoff]; exact q3⟩
  clear hR hC2 hoff hgoodT
  generalize o2 t k i = p at *
  repeat' (first | simp only [go_sem, Nat.reduceLT, Nat.reduceEqDiff, Nat.reduceAdd, Nat.reduceMul, Nat.reduceSub, Nat.reduceLeDiff, Int.reduceToNat, Int.reduceNeg, Int.reduceLT, Int.reduceLE, Int.reduceEq, reduceCtorEq, Int.natCast_zero, Int.natCast_one, Int.cast_ofNat_Int, Bool.not_not, false_eq_decide, true_eq_decide, hread0, hreadk, read_cons0, read_consk, astore_h0, astore_hk, hget0, hgetk, hset0, hsetk, hlen, hcat, Nat.add_assoc, Nat.add_zero, Nat.zero_add, List.length_append, and_true, true_and, AV.flat, *, -hK, -hC0, -hgood, -hbadT, -back, -hTl, -hlt] | with_reducible refine IfB_dec (fun h => ?_) (fun h => ?_) | with_reducible refine Guard_dec (fun h => ?_) (fun h => ?_) | with_reducible refine Guard_ndec (fun h => ?_) (fun h => ?_) | with_reducible refine Guard_not (fun h => ?_) (fun h => ?_) | with_reducible refine IfB_ndec (fun h => ?_) (fun h => ?_) | with_reducible refine IfB_not (fun h => ?_) (fun h => ?_) | with_reducible refine Guard_split (fun h => ?_) (fun h => ?_) | with_reducible refine IfB_split (fun h => ?_) (fun h => ?_))
  have hA0 := hA2
  have o3 := s3
  have o29 := s29
  have o30 := s30
  generalize t ++ k = TT at *
  refine WX_loopS [3, 29, 30, 31, 35, 36] (fun kn fr' J2 => ∃ z : Nat, kn = l.length - z ∧ z ≤ l.length ∧ fr'.get 37 = .int .i64 z ∧ J2 = [Ab, ⟨(TT.take (p + z)).map AV.str, 0, .mp⟩, Cb] ∧ goodL (TT.take (p + z)) ∧ A fr') l.length ⟨0, rfl, by omega, by simp only [go_sem, Nat.reduceLT, Nat.reduceEqDiff, Nat.reduceAdd, Nat.reduceMul, Nat.reduceSub, Nat.reduceLeDiff, Int.reduceToNat, Int.reduceNeg, Int.reduceLT, Int.reduceLE, Int.reduceEq, reduceCtorEq]; rfl, rfl, hgood, by (repeat (first | exact hs | refine hA2 _ _ _ (by decide) ?_))⟩ ?_
  clear hg hs hA2 s3 s29 s30 hgood
  rintro kn fr' J2 A2 R2 hA hs hg hR2 ⟨z, rfl, hz, f37, rfl, hgood, hAf⟩
  have s3 := hg 3 (by decide)
  have s29 := hg 29 (by decide)
  have s30 := hg 30 (by decide)
  have s31 := hg 31 (by decide)
  have s35 := hg 35 (by decide)
  have s36 := hg 36 (by decide)
  simp only [Fr.get_put, Fr.get_init, List.getD_cons_zero, List.getD_cons_succ, Nat.reduceEqDiff, if_true, if_false] at s3 s29 s30 s31 s35 s36
  rw [o3] at s3
  rw [o29] at s29
  rw [o30] at s30
  rw [f31] at s31
  clear o3 o29 o30 f31
  refine wx_sound hT _ ?_
  by_cases hlz : z < l.length
  rotate_left
  · have i6 : ¬ (z : Int) < l.length := by omega
    have hze : z = l.length := by omega
    subst hze
    repeat' (first | simp only [go_sem, Nat.reduceLT, Nat.reduceEqDiff, Nat.reduceAdd, Nat.reduceMul, Nat.reduceSub, Nat.reduceLeDiff, Int.reduceToNat, Int.reduceNeg, Int.reduceLT, Int.reduceLE, Int.reduceEq, reduceCtorEq, Int.natCast_zero, Int.natCast_one, Int.cast_ofNat_Int, Bool.not_not, false_eq_decide, true_eq_decide, hread0, hreadk, read_cons0, read_consk, astore_h0, astore_hk, hget0, hgetk, hset0, hsetk, hlen, hcat, Nat.add_assoc, Nat.add_zero, Nat.zero_add, List.length_append, and_true, true_and, AV.flat, *, -hK, -hC0, -hgood, -hbadT, -back, -hTl, -hlt, -hlz] | with_reducible refine IfB_dec (fun h => ?_) (fun h => ?_) | with_reducible refine Guard_dec (fun h => ?_) (fun h => ?_) | with_reducible refine Guard_ndec (fun h => ?_) (fun h => ?_) | with_reducible refine Guard_not (fun h => ?_) (fun h => ?_) | with_reducible refine IfB_ndec (fun h => ?_) (fun h => ?_) | with_reducible refine IfB_not (fun h => ?_) (fun h => ?_) | with_reducible refine Guard_split (fun h => ?_) (fun h => ?_) | with_reducible refine IfB_split (fun h => ?_) (fun h => ?_))
    exact back _ _ (by repeat (first | exact hAf | refine hA0 _ _ _ (by decide) ?_)) (by simp only [go_sem, Nat.reduceLT, Nat.reduceEqDiff, Nat.reduceAdd, Nat.reduceMul, Nat.reduceSub, Nat.reduceLeDiff, Int.reduceToNat, Int.reduceNeg, Int.reduceLT, Int.reduceLE, Int.reduceEq, reduceCtorEq]) rfl hgood
  have i6 : (z : Int) < l.length := by omega
  have e7 := inc_id hlz (by omega)
  have e4 := at_enc (E := Enc.str) (T := T) (k := .i64) se22 hlz rfl
  rw [str_cells] at e4
  have hTz := hTl z hlz
  obtain ⟨hpz, hTz2⟩ := List.getElem?_eq_some_iff.1 hTz
  have hbz := hbadT (p + z) hpz
  rw [hTz2] at hbz
  have hst : TT.take (p + (z + 1)) = TT.take (p + z) ++ [l[z]] := by rw [← Nat.add_assoc, List.take_succ_eq_append_getElem hpz, hTz2]
  have back2 : ∀ fr2 J3, A2 fr2 → fr2.get 37 = .int .i64 ((z + 1 : Nat) : Int) → J3 = [Ab, ⟨(TT.take (p + z) ++ [l[z]]).map AV.str, 0, .mp⟩, Cb] → goodL (TT.take (p + z) ++ [l[z]]) → A fr2 → R2 fr2 J3 := fun fr2 J3 ha j1 j2 j3 j4 => hR2 fr2 J3 ha (l.length - (z + 1)) (by omega) ⟨z + 1, rfl, by omega, j1, by rw [hst]; exact j2, by rw [hst]; exact j3, j4⟩
  clear hR2 back hbadT hTl hTz hTz2 hst
  generalize TT.take (p + z) = ks at *
  generalize l[z] = s at *
  have kd := fun J => keyed_spec s J
  have lk := look3 Ab Cb ks s
  cases hk : kOk s with
  | false =>
    rw [hk] at kd
    rw [hbz (.inl hk)] at hK
    repeat' (first | simp only [go_sem, Nat.reduceLT, Nat.reduceEqDiff, Nat.reduceAdd, Nat.reduceMul, Nat.reduceSub, Nat.reduceLeDiff, Int.reduceToNat, Int.reduceNeg, Int.reduceLT, Int.reduceLE, Int.reduceEq, reduceCtorEq, Int.natCast_zero, Int.natCast_one, Int.cast_ofNat_Int, Bool.not_not, false_eq_decide, true_eq_decide, hread0, hreadk, read_cons0, read_consk, astore_h0, astore_hk, hget0, hgetk, hset0, hsetk, hlen, hcat, Nat.add_assoc, Nat.add_zero, Nat.zero_add, List.length_append, and_true, true_and, AV.flat, *, -hK, -hC0, -hgood, -hlt, -hlz, -back2, -hbz, -hk, -kd, -hpz, -rd] | refine WC.call (kd _) ?_ | with_reducible refine IfB_dec (fun h => ?_) (fun h => ?_) | with_reducible refine Guard_dec (fun h => ?_) (fun h => ?_) | with_reducible refine Guard_ndec (fun h => ?_) (fun h => ?_) | with_reducible refine Guard_not (fun h => ?_) (fun h => ?_) | with_reducible refine IfB_ndec (fun h => ?_) (fun h => ?_) | with_reducible refine IfB_not (fun h => ?_) (fun h => ?_) | with_reducible refine Guard_split (fun h => ?_) (fun h => ?_) | with_reducible refine IfB_split (fun h => ?_) (fun h => ?_))
    exact hK _ _ (.int _ _) ⟨by simp, fun b hb => by simp at hb⟩
  | true =>
  rw [hk] at kd
  by_cases hm : s ∈ ks
  · rw [decide_eq_true hm] at lk
    rw [hbz (.inr hm)] at hK
    clear hm
    repeat' (first | simp only [go_sem, Nat.reduceLT, Nat.reduceEqDiff, Nat.reduceAdd, Nat.reduceMul, Nat.reduceSub, Nat.reduceLeDiff, Int.reduceToNat, Int.reduceNeg, Int.reduceLT, Int.reduceLE, Int.reduceEq, reduceCtorEq, Int.natCast_zero, Int.natCast_one, Int.cast_ofNat_Int, Bool.not_not, false_eq_decide, true_eq_decide, hread0, hreadk, read_cons0, read_consk, astore_h0, astore_hk, hget0, hgetk, hset0, hsetk, hlen, hcat, Nat.add_assoc, Nat.add_zero, Nat.zero_add, List.length_append, and_true, true_and, AV.flat, *, -hK, -hC0, -hgood, -hlt, -hlz, -back2, -hbz, -hk, -kd, -hpz, -rd] | refine WC.call (kd _) ?_ | with_reducible refine IfB_dec (fun h => ?_) (fun h => ?_) | with_reducible refine Guard_dec (fun h => ?_) (fun h => ?_) | with_reducible refine Guard_ndec (fun h => ?_) (fun h => ?_) | with_reducible refine Guard_not (fun h => ?_) (fun h => ?_) | with_reducible refine IfB_ndec (fun h => ?_) (fun h => ?_) | with_reducible refine IfB_not (fun h => ?_) (fun h => ?_) | with_reducible refine Guard_split (fun h => ?_) (fun h => ?_) | with_reducible refine IfB_split (fun h => ?_) (fun h => ?_))
    exact hK _ _ (.int _ _) ⟨by simp, fun b hb => by simp at hb⟩
  · rw [decide_eq_false hm] at lk
    have up := upd3 Ab Cb hC0 ks s hm
    have hg2 := goodL_snoc hgood hk hm
    clear hm
    repeat' (first | simp only [go_sem, Nat.reduceLT, Nat.reduceEqDiff, Nat.reduceAdd, Nat.reduceMul, Nat.reduceSub, Nat.reduceLeDiff, Int.reduceToNat, Int.reduceNeg, Int.reduceLT, Int.reduceLE, Int.reduceEq, reduceCtorEq, Int.natCast_zero, Int.natCast_one, Int.cast_ofNat_Int, Bool.not_not, false_eq_decide, true_eq_decide, hread0, hreadk, read_cons0, read_consk, astore_h0, astore_hk, hget0, hgetk, hset0, hsetk, hlen, hcat, Nat.add_assoc, Nat.add_zero, Nat.zero_add, List.length_append, and_true, true_and, AV.flat, *, -hK, -hC0, -hgood, -hlt, -hlz, -back2, -hbz, -hk, -kd, -hpz, -rd, -hg2] | refine WC.call (kd _) ?_ | with_reducible refine IfB_dec (fun h => ?_) (fun h => ?_) | with_reducible refine Guard_dec (fun h => ?_) (fun h => ?_) | with_reducible refine Guard_ndec (fun h => ?_) (fun h => ?_) | with_reducible refine Guard_not (fun h => ?_) (fun h => ?_) | with_reducible refine IfB_ndec (fun h => ?_) (fun h => ?_) | with_reducible refine IfB_not (fun h => ?_) (fun h => ?_) | with_reducible refine Guard_split (fun h => ?_) (fun h => ?_) | with_reducible refine IfB_split (fun h => ?_) (fun h => ?_))
    exact back2 _ _ (by (repeat (first | exact hs | refine hA _ _ _ (by decide) ?_))) (by simp only [go_sem, Nat.reduceLT, Nat.reduceEqDiff, Nat.reduceAdd, Nat.reduceMul, Nat.reduceSub, Nat.reduceLeDiff, Int.reduceToNat, Int.reduceNeg, Int.reduceLT, Int.reduceLE, Int.reduceEq, reduceCtorEq]) rfl hg2 (by repeat (first | exact hAf | refine hA0 _ _ _ (by decide) ?_))
end Go.Proofs.Ytakllaigpjbgdaa
