import Derived.Test.YtinejbofnjndnaaAdmD
set_option linter.unusedSimpArgs false
set_option linter.unusedVariables false
set_option maxRecDepth 100000
set_option maxHeartbeats 4000000
namespace Go.Proofs.Ytinejbofnjndnaa
open Go Go.Proofs Go.Proofs.PI
/-! ### the end, a tenant's counts, their sum -/
open Classical in
noncomputable def drainL (a : Adm) : Adm × Int := if a.may then (⟨a.ts, true⟩, 0) else (adm0, 8)
open Classical in
noncomputable def statL (a : Adm) (t : Int) : Stat × Int := if ¬ a.may then (stat0, 8) else if h : 0 ≤ t ∧ t.toNat < a.ts.length then (a.ts[t.toNat]'h.2, 0) else (stat0, 2)
def sumA (ts : List Stat) : Stat := ts.foldl Stat.add stat0
open Classical in
noncomputable def sumL (a : Adm) : Stat × Int := if a.may then (sumA a.ts, 0) else (stat0, 8)
open Classical in
noncomputable def takesL (a : Adm) : Bool × Int := if a.may then (!a.dr, 0) else (false, 8)
theorem drain_own (a : Adm) (hn : a.ts.length ≤ 1000000) (H : Heap) : WC Try.prog 16 [a.av] H fun w H' => (∃ v, w = .tup [.agg [v, .bool (drainL a).1.dr], .int .i64 (drainL a).2] ∧ OwnE statE H.length H' v (drainL a).1.ts) ∧ Keep none H H' := by
  refine WC_of_K fun K hK => ?_
  have c1 := fun J => admCheck_spec a (by omega) J
  have tw := fun J => twin_own a hn J
  unfold drainL at hK
  unfold Adm.av at *
  by_cases hm : a.may
  rotate_left
  · rw [if_neg hm] at hK
    rw [admE_bad hm] at c1
    refine WC_of_body hT Try.func16 rfl (by simp [Try.f16]) (by simp [Try.f16]) (wx_sound hT _ ?_)
    simp only [Try.f16]
    repeat' (first | simp only [go_sem, Nat.reduceLT, Nat.reduceEqDiff, Nat.reduceAdd, Nat.reduceMul, Nat.reduceSub, Nat.reduceLeDiff, Int.reduceToNat, Int.reduceNeg, Int.reduceLT, Int.reduceLE, Int.reduceEq, reduceCtorEq, Int.natCast_zero, Int.natCast_one, Int.cast_ofNat_Int, Bool.not_not, false_eq_decide, true_eq_decide, hread0, hreadk, read_cons0, read_consk, astore_h0, astore_hk, hget0, hgetk, hset0, hsetk, hlen, hcat, Nat.add_assoc, Nat.add_zero, Nat.zero_add, List.length_append, and_true, true_and, AV.flat, *, -hK, -hm, -tw] | refine WC.call (c1 _) ?_ | with_reducible refine IfB_dec (fun h => ?_) (fun h => ?_) | with_reducible refine Guard_dec (fun h => ?_) (fun h => ?_) | with_reducible refine Guard_ndec (fun h => ?_) (fun h => ?_) | with_reducible refine Guard_not (fun h => ?_) (fun h => ?_) | with_reducible refine IfB_ndec (fun h => ?_) (fun h => ?_) | with_reducible refine IfB_not (fun h => ?_) (fun h => ?_) | with_reducible refine Guard_split (fun h => ?_) (fun h => ?_) | with_reducible refine IfB_split (fun h => ?_) (fun h => ?_))
    exact hK _ _ ⟨⟨.nils, rfl, OwnE.nils _ _ _⟩, Keep.app _ _ _⟩
  rw [if_pos hm] at hK
  rw [admE_ok hm] at c1
  refine WC_of_body hT Try.func16 rfl (by simp [Try.f16]) (by simp [Try.f16]) (wx_sound hT _ ?_)
  simp only [Try.f16]
  repeat' (first | simp only [go_sem, Nat.reduceLT, Nat.reduceEqDiff, Nat.reduceAdd, Nat.reduceMul, Nat.reduceSub, Nat.reduceLeDiff, Int.reduceToNat, Int.reduceNeg, Int.reduceLT, Int.reduceLE, Int.reduceEq, reduceCtorEq, Int.natCast_zero, Int.natCast_one, Int.cast_ofNat_Int, Bool.not_not, false_eq_decide, true_eq_decide, hread0, hreadk, read_cons0, read_consk, astore_h0, astore_hk, hget0, hgetk, hset0, hsetk, hlen, hcat, Nat.add_assoc, Nat.add_zero, Nat.zero_add, List.length_append, and_true, true_and, AV.flat, *, -hK, -hm, -tw] | refine WC.call (c1 _) ?_ | with_reducible refine IfB_dec (fun h => ?_) (fun h => ?_) | with_reducible refine Guard_dec (fun h => ?_) (fun h => ?_) | with_reducible refine Guard_ndec (fun h => ?_) (fun h => ?_) | with_reducible refine Guard_not (fun h => ?_) (fun h => ?_) | with_reducible refine IfB_ndec (fun h => ?_) (fun h => ?_) | with_reducible refine IfB_not (fun h => ?_) (fun h => ?_) | with_reducible refine Guard_split (fun h => ?_) (fun h => ?_) | with_reducible refine IfB_split (fun h => ?_) (fun h => ?_))
  refine (tw _).mono ?_
  rintro w H1 ⟨⟨v, rfl, o⟩, k⟩
  have hv := o.one
  have hb0 := k.get (b := H.length) (B := ⟨[statE.lst a.ts, .bool a.dr], 0, .full⟩) (by rw [hget0]; rfl) (by simp)
  have hb1 := k.get (b := H.length + 1) (B := ⟨[.nils, .bool false], 0, .full⟩) (by rw [hgetk]; rfl) (by simp)
  have hne : ∀ b, v.blk = some b → H.length + 2 ≤ b := fun b hb => by have := o.ge hb; simpa using this
  have hlt1 := k.len
  rw [List.length_append] at hlt1
  simp only [List.length_cons, List.length_nil] at hlt1
  have hbx : (List.set H1 H.length ⟨[v, .bool a.dr], 0, .full⟩)[H.length + 1]? = some (⟨[.nils, .bool false], 0, .full⟩ : Blk) := by rw [List.getElem?_set_ne (by omega)]; exact hb1
  have hby : (List.set H1 H.length ⟨[v, .bool true], 0, .full⟩)[H.length + 1]? = some (⟨[.nils, .bool false], 0, .full⟩ : Blk) := by rw [List.getElem?_set_ne (by omega)]; exact hb1
  clear tw c1
  repeat' (first | simp only [go_sem, Nat.reduceLT, Nat.reduceEqDiff, Nat.reduceAdd, Nat.reduceMul, Nat.reduceSub, Nat.reduceLeDiff, Int.reduceToNat, Int.reduceNeg, Int.reduceLT, Int.reduceLE, Int.reduceEq, reduceCtorEq, Int.natCast_zero, Int.natCast_one, Int.cast_ofNat_Int, Bool.not_not, false_eq_decide, true_eq_decide, hread0, hreadk, read_cons0, read_consk, astore_h0, astore_hk, hget0, hgetk, hset0, hsetk, hlen, hcat, Nat.add_assoc, Nat.add_zero, Nat.zero_add, List.length_append, and_true, true_and, AV.flat, hb0, get_app hb0, read_get hb0, read_app hb0, astore_get hb0, astore_app hb0, get_set hb0, get_set_app hb0, read_set hb0, read_set_app hb0, astore_set hb0, astore_set_app hb0, List.set_set, hget0s, hgetks, hread0s, hreadks, List.length_set, hbx, get_app hbx, read_get hbx, read_app hbx, astore_get hbx, astore_app hbx, get_set hbx, get_set_app hbx, read_set hbx, read_set_app hbx, astore_set hbx, astore_set_app hbx, List.set_set, hget0s, hgetks, hread0s, hreadks, List.length_set, hby, get_app hby, read_get hby, read_app hby, astore_get hby, astore_app hby, get_set hby, get_set_app hby, read_set hby, read_set_app hby, astore_set hby, astore_set_app hby, List.set_set, hget0s, hgetks, hread0s, hreadks, List.length_set, hv, one_solid hv, one_cells hv, *, -hK, -o, -k, -hne, -hm] | with_reducible refine IfB_dec (fun h => ?_) (fun h => ?_) | with_reducible refine Guard_dec (fun h => ?_) (fun h => ?_) | with_reducible refine Guard_ndec (fun h => ?_) (fun h => ?_) | with_reducible refine Guard_not (fun h => ?_) (fun h => ?_) | with_reducible refine IfB_ndec (fun h => ?_) (fun h => ?_) | with_reducible refine IfB_not (fun h => ?_) (fun h => ?_) | with_reducible refine Guard_split (fun h => ?_) (fun h => ?_) | with_reducible refine IfB_split (fun h => ?_) (fun h => ?_))
  refine hK _ _ ⟨⟨v, rfl, ?_⟩, ?_⟩
  · exact OwnE.keep (OwnE.keep (Own.mono o (by simp)) (Keep.of_set rfl) (fun b hb e => by cases hb; have := hne _ e; omega)) (Keep.of_set rfl) (fun b hb e => by cases hb; have := hne _ e; omega)
  · refine ⟨by simp only [List.length_set]; omega, fun b hb _ => ?_⟩
    rw [List.getElem?_set_ne (by omega), List.getElem?_set_ne (by omega), k.at_ b (by simp; omega) (by simp), List.getElem?_append_left hb]
theorem takes_spec (a : Adm) (hn : a.ts.length ≤ 1000000) (H : Heap) : WC Try.prog 17 [a.av] H fun w H' => w = .tup [.bool (takesL a).1, .int .i64 (takesL a).2] ∧ H' = H := by
  refine WC_val fun K hK => ?_
  have c1 := fun J => admCheck_spec a (by omega) J
  unfold takesL at hK
  unfold Adm.av at *
  by_cases hm : a.may
  · rw [if_pos hm] at hK
    rw [admE_ok hm] at c1
    refine WC_of_body hT Try.func17 rfl (by simp [Try.f17]) (by simp [Try.f17]) (wx_sound hT _ ?_)
    simp only [Try.f17]
    repeat' (first | simp only [go_sem, Nat.reduceLT, Nat.reduceEqDiff, Nat.reduceAdd, Nat.reduceMul, Nat.reduceSub, Nat.reduceLeDiff, Int.reduceToNat, Int.reduceNeg, Int.reduceLT, Int.reduceLE, Int.reduceEq, reduceCtorEq, Int.natCast_zero, Int.natCast_one, Int.cast_ofNat_Int, Bool.not_not, false_eq_decide, true_eq_decide, hread0, hreadk, read_cons0, read_consk, astore_h0, astore_hk, hget0, hgetk, hset0, hsetk, hlen, hcat, Nat.add_assoc, Nat.add_zero, Nat.zero_add, List.length_append, and_true, true_and, AV.flat, *, -hK, -hm] | refine WC.call (c1 _) ?_ | with_reducible refine IfB_dec (fun h => ?_) (fun h => ?_) | with_reducible refine Guard_dec (fun h => ?_) (fun h => ?_) | with_reducible refine Guard_ndec (fun h => ?_) (fun h => ?_) | with_reducible refine Guard_not (fun h => ?_) (fun h => ?_) | with_reducible refine IfB_ndec (fun h => ?_) (fun h => ?_) | with_reducible refine IfB_not (fun h => ?_) (fun h => ?_) | with_reducible refine Guard_split (fun h => ?_) (fun h => ?_) | with_reducible refine IfB_split (fun h => ?_) (fun h => ?_))
    exact hK _ _ (Thaw.tup_row ⟨.bool _, .int _ _, trivial⟩) (Keep.app _ _ _)
  · rw [if_neg hm] at hK
    rw [admE_bad hm] at c1
    refine WC_of_body hT Try.func17 rfl (by simp [Try.f17]) (by simp [Try.f17]) (wx_sound hT _ ?_)
    simp only [Try.f17]
    repeat' (first | simp only [go_sem, Nat.reduceLT, Nat.reduceEqDiff, Nat.reduceAdd, Nat.reduceMul, Nat.reduceSub, Nat.reduceLeDiff, Int.reduceToNat, Int.reduceNeg, Int.reduceLT, Int.reduceLE, Int.reduceEq, reduceCtorEq, Int.natCast_zero, Int.natCast_one, Int.cast_ofNat_Int, Bool.not_not, false_eq_decide, true_eq_decide, hread0, hreadk, read_cons0, read_consk, astore_h0, astore_hk, hget0, hgetk, hset0, hsetk, hlen, hcat, Nat.add_assoc, Nat.add_zero, Nat.zero_add, List.length_append, and_true, true_and, AV.flat, *, -hK, -hm] | refine WC.call (c1 _) ?_ | with_reducible refine IfB_dec (fun h => ?_) (fun h => ?_) | with_reducible refine Guard_dec (fun h => ?_) (fun h => ?_) | with_reducible refine Guard_ndec (fun h => ?_) (fun h => ?_) | with_reducible refine Guard_not (fun h => ?_) (fun h => ?_) | with_reducible refine IfB_ndec (fun h => ?_) (fun h => ?_) | with_reducible refine IfB_not (fun h => ?_) (fun h => ?_) | with_reducible refine Guard_split (fun h => ?_) (fun h => ?_) | with_reducible refine IfB_split (fun h => ?_) (fun h => ?_))
    exact hK _ _ (Thaw.tup_row ⟨.bool _, .int _ _, trivial⟩) (Keep.app _ _ _)
theorem stat_spec (a : Adm) (t : Int) (hn : a.ts.length ≤ 1000000) (H : Heap) : WC Try.prog 15 [a.av, .int .i64 t] H fun w H' => w = .tup [(statL a t).1.av, .int .i64 (statL a t).2] ∧ H' = H := by
  refine WC_val fun K hK => ?_
  have c1 := fun J => admCheck_spec a (by omega) J
  unfold statL at hK
  unfold Adm.av at *
  by_cases hm : a.may
  rotate_left
  · rw [if_pos hm] at hK
    rw [admE_bad hm] at c1
    refine WC_of_body hT Try.func15 rfl (by simp [Try.f15]) (by simp [Try.f15]) (wx_sound hT _ ?_)
    simp only [Try.f15]
    repeat' (first | simp only [go_sem, Nat.reduceLT, Nat.reduceEqDiff, Nat.reduceAdd, Nat.reduceMul, Nat.reduceSub, Nat.reduceLeDiff, Int.reduceToNat, Int.reduceNeg, Int.reduceLT, Int.reduceLE, Int.reduceEq, reduceCtorEq, Int.natCast_zero, Int.natCast_one, Int.cast_ofNat_Int, Bool.not_not, false_eq_decide, true_eq_decide, hread0, hreadk, read_cons0, read_consk, astore_h0, astore_hk, hget0, hgetk, hset0, hsetk, hlen, hcat, Nat.add_assoc, Nat.add_zero, Nat.zero_add, List.length_append, and_true, true_and, AV.flat, *, -hK, -hm] | refine WC.call (c1 _) ?_ | with_reducible refine IfB_dec (fun h => ?_) (fun h => ?_) | with_reducible refine Guard_dec (fun h => ?_) (fun h => ?_) | with_reducible refine Guard_ndec (fun h => ?_) (fun h => ?_) | with_reducible refine Guard_not (fun h => ?_) (fun h => ?_) | with_reducible refine IfB_ndec (fun h => ?_) (fun h => ?_) | with_reducible refine IfB_not (fun h => ?_) (fun h => ?_) | with_reducible refine Guard_split (fun h => ?_) (fun h => ?_) | with_reducible refine IfB_split (fun h => ?_) (fun h => ?_))
    exact hK _ _ (Thaw.tup_row ⟨Thaw.agg_row ⟨.int _ _, .int _ _, .int _ _, .int _ _, .int _ _, .int _ _, trivial⟩, .int _ _, trivial⟩) (Keep.app _ _ _)
  rw [if_neg (fun h => h hm)] at hK
  rw [admE_ok hm] at c1
  by_cases ht : 0 ≤ t ∧ t.toNat < a.ts.length
  · rw [dif_pos ht] at hK
    obtain ⟨k, rfl⟩ : ∃ k : Nat, t = (k : Int) := ⟨t.toNat, by omega⟩
    have hlt : k < a.ts.length := by have := ht.2; omega
    have i1 : ¬ (k : Int) < 0 := by omega
    have i2 : ¬ (k : Int) ≥ a.ts.length := by omega
    have e1 := at_enc (E := statE) (T := T) (k := .i64) se22 hlt rfl
    simp only [Int.toNat_natCast] at hK
    refine WC_of_body hT Try.func15 rfl (by simp [Try.f15]) (by simp [Try.f15]) (wx_sound hT _ ?_)
    simp only [Try.f15]
    repeat' (first | simp only [go_sem, Nat.reduceLT, Nat.reduceEqDiff, Nat.reduceAdd, Nat.reduceMul, Nat.reduceSub, Nat.reduceLeDiff, Int.reduceToNat, Int.reduceNeg, Int.reduceLT, Int.reduceLE, Int.reduceEq, reduceCtorEq, Int.natCast_zero, Int.natCast_one, Int.cast_ofNat_Int, Bool.not_not, false_eq_decide, true_eq_decide, hread0, hreadk, read_cons0, read_consk, astore_h0, astore_hk, hget0, hgetk, hset0, hsetk, hlen, hcat, Nat.add_assoc, Nat.add_zero, Nat.zero_add, List.length_append, and_true, true_and, AV.flat, statE_cells, *, -hK, -hm, -ht] | refine WC.call (c1 _) ?_ | with_reducible refine IfB_dec (fun h => ?_) (fun h => ?_) | with_reducible refine Guard_dec (fun h => ?_) (fun h => ?_) | with_reducible refine Guard_ndec (fun h => ?_) (fun h => ?_) | with_reducible refine Guard_not (fun h => ?_) (fun h => ?_) | with_reducible refine IfB_ndec (fun h => ?_) (fun h => ?_) | with_reducible refine IfB_not (fun h => ?_) (fun h => ?_) | with_reducible refine Guard_split (fun h => ?_) (fun h => ?_) | with_reducible refine IfB_split (fun h => ?_) (fun h => ?_))
    exact hK _ _ (Thaw.tup_row ⟨Thaw.agg_row ⟨.int _ _, .int _ _, .int _ _, .int _ _, .int _ _, .int _ _, trivial⟩, .int _ _, trivial⟩) (Keep.app _ _ _)
  · rw [dif_neg ht] at hK
    by_cases i1 : t < 0
    · skip
      refine WC_of_body hT Try.func15 rfl (by simp [Try.f15]) (by simp [Try.f15]) (wx_sound hT _ ?_)
      simp only [Try.f15]
      repeat' (first | simp only [go_sem, Nat.reduceLT, Nat.reduceEqDiff, Nat.reduceAdd, Nat.reduceMul, Nat.reduceSub, Nat.reduceLeDiff, Int.reduceToNat, Int.reduceNeg, Int.reduceLT, Int.reduceLE, Int.reduceEq, reduceCtorEq, Int.natCast_zero, Int.natCast_one, Int.cast_ofNat_Int, Bool.not_not, false_eq_decide, true_eq_decide, hread0, hreadk, read_cons0, read_consk, astore_h0, astore_hk, hget0, hgetk, hset0, hsetk, hlen, hcat, Nat.add_assoc, Nat.add_zero, Nat.zero_add, List.length_append, and_true, true_and, AV.flat, *, -hK, -hm, -ht] | refine WC.call (c1 _) ?_ | with_reducible refine IfB_dec (fun h => ?_) (fun h => ?_) | with_reducible refine Guard_dec (fun h => ?_) (fun h => ?_) | with_reducible refine Guard_ndec (fun h => ?_) (fun h => ?_) | with_reducible refine Guard_not (fun h => ?_) (fun h => ?_) | with_reducible refine IfB_ndec (fun h => ?_) (fun h => ?_) | with_reducible refine IfB_not (fun h => ?_) (fun h => ?_) | with_reducible refine Guard_split (fun h => ?_) (fun h => ?_) | with_reducible refine IfB_split (fun h => ?_) (fun h => ?_))
      exact hK _ _ (Thaw.tup_row ⟨Thaw.agg_row ⟨.int _ _, .int _ _, .int _ _, .int _ _, .int _ _, .int _ _, trivial⟩, .int _ _, trivial⟩) (Keep.app _ _ _)
    · have i2 : t ≥ (a.ts.length : Int) := by omega
      refine WC_of_body hT Try.func15 rfl (by simp [Try.f15]) (by simp [Try.f15]) (wx_sound hT _ ?_)
      simp only [Try.f15]
      repeat' (first | simp only [go_sem, Nat.reduceLT, Nat.reduceEqDiff, Nat.reduceAdd, Nat.reduceMul, Nat.reduceSub, Nat.reduceLeDiff, Int.reduceToNat, Int.reduceNeg, Int.reduceLT, Int.reduceLE, Int.reduceEq, reduceCtorEq, Int.natCast_zero, Int.natCast_one, Int.cast_ofNat_Int, Bool.not_not, false_eq_decide, true_eq_decide, hread0, hreadk, read_cons0, read_consk, astore_h0, astore_hk, hget0, hgetk, hset0, hsetk, hlen, hcat, Nat.add_assoc, Nat.add_zero, Nat.zero_add, List.length_append, and_true, true_and, AV.flat, *, -hK, -hm, -ht] | refine WC.call (c1 _) ?_ | with_reducible refine IfB_dec (fun h => ?_) (fun h => ?_) | with_reducible refine Guard_dec (fun h => ?_) (fun h => ?_) | with_reducible refine Guard_ndec (fun h => ?_) (fun h => ?_) | with_reducible refine Guard_not (fun h => ?_) (fun h => ?_) | with_reducible refine IfB_ndec (fun h => ?_) (fun h => ?_) | with_reducible refine IfB_not (fun h => ?_) (fun h => ?_) | with_reducible refine Guard_split (fun h => ?_) (fun h => ?_) | with_reducible refine IfB_split (fun h => ?_) (fun h => ?_))
      exact hK _ _ (Thaw.tup_row ⟨Thaw.agg_row ⟨.int _ _, .int _ _, .int _ _, .int _ _, .int _ _, .int _ _, trivial⟩, .int _ _, trivial⟩) (Keep.app _ _ _)
/-! ### the document's own -/
theorem refIn_spec (n : Int) (H : Heap) : WC Try.prog 43 [.int .i64 n] H fun r H' => r = .bool (decide (inC n)) ∧ H' = H := by
  refine WC_of_K fun K hK => ?_
  by_cases h : n ≥ 0
  · rw [show decide (inC n) = decide (n ≤ 1099511627776) from decide_eq_decide.2 (by unfold inC; omega)] at hK
    refine WC_of_body hT Try.func43 rfl (by simp [Try.f43]) (by simp [Try.f43]) (wx_sound hT _ ?_)
    simp only [Try.f43]
    repeat' (first | simp only [go_sem, Nat.reduceLT, Nat.reduceEqDiff, Nat.reduceAdd, Nat.reduceMul, Nat.reduceSub, Nat.reduceLeDiff, Int.reduceToNat, Int.reduceNeg, Int.reduceLT, Int.reduceLE, Int.reduceEq, reduceCtorEq, Int.natCast_zero, Int.natCast_one, Int.cast_ofNat_Int, Bool.not_not, false_eq_decide, true_eq_decide, hread0, hreadk, read_cons0, read_consk, astore_h0, astore_hk, hget0, hgetk, hset0, hsetk, hlen, hcat, Nat.add_assoc, Nat.add_zero, Nat.zero_add, List.length_append, and_true, true_and, AV.flat, *, -hK] | with_reducible refine IfB_dec (fun h => ?_) (fun h => ?_) | with_reducible refine Guard_dec (fun h => ?_) (fun h => ?_) | with_reducible refine Guard_ndec (fun h => ?_) (fun h => ?_) | with_reducible refine Guard_not (fun h => ?_) (fun h => ?_) | with_reducible refine IfB_ndec (fun h => ?_) (fun h => ?_) | with_reducible refine IfB_not (fun h => ?_) (fun h => ?_) | with_reducible refine Guard_split (fun h => ?_) (fun h => ?_) | with_reducible refine IfB_split (fun h => ?_) (fun h => ?_))
    exact hK _ _ ⟨rfl, rfl⟩
  · rw [show decide (inC n) = false from decide_eq_false (by unfold inC; omega)] at hK
    refine WC_of_body hT Try.func43 rfl (by simp [Try.f43]) (by simp [Try.f43]) (wx_sound hT _ ?_)
    simp only [Try.f43]
    repeat' (first | simp only [go_sem, Nat.reduceLT, Nat.reduceEqDiff, Nat.reduceAdd, Nat.reduceMul, Nat.reduceSub, Nat.reduceLeDiff, Int.reduceToNat, Int.reduceNeg, Int.reduceLT, Int.reduceLE, Int.reduceEq, reduceCtorEq, Int.natCast_zero, Int.natCast_one, Int.cast_ofNat_Int, Bool.not_not, false_eq_decide, true_eq_decide, hread0, hreadk, read_cons0, read_consk, astore_h0, astore_hk, hget0, hgetk, hset0, hsetk, hlen, hcat, Nat.add_assoc, Nat.add_zero, Nat.zero_add, List.length_append, and_true, true_and, AV.flat, *, -hK] | with_reducible refine IfB_dec (fun h => ?_) (fun h => ?_) | with_reducible refine Guard_dec (fun h => ?_) (fun h => ?_) | with_reducible refine Guard_ndec (fun h => ?_) (fun h => ?_) | with_reducible refine Guard_not (fun h => ?_) (fun h => ?_) | with_reducible refine IfB_ndec (fun h => ?_) (fun h => ?_) | with_reducible refine IfB_not (fun h => ?_) (fun h => ?_) | with_reducible refine Guard_split (fun h => ?_) (fun h => ?_) | with_reducible refine IfB_split (fun h => ?_) (fun h => ?_))
    exact hK _ _ ⟨rfl, rfl⟩
open Classical in
theorem refMayA_spec (a : Adm) (hn : a.ts.length ≤ 140737488355328) (H : Heap) : WC Try.prog 33 [a.av] H fun r H' => r = .bool (decide a.may) ∧ H' = H := by
  refine WC_val fun K hK => ?_
  have ic := fun n J => refIn_spec n J
  unfold Adm.av
  refine WC_of_body hT Try.func33 rfl (by simp [Try.f33]) (by simp [Try.f33]) (wx_sound hT _ ?_)
  simp only [Try.f33]
  repeat' (first | simp only [go_sem, Nat.reduceLT, Nat.reduceEqDiff, Nat.reduceAdd, Nat.reduceMul, Nat.reduceSub, Nat.reduceLeDiff, Int.reduceToNat, Int.reduceNeg, Int.reduceLT, Int.reduceLE, Int.reduceEq, reduceCtorEq, Int.natCast_zero, Int.natCast_one, Int.cast_ofNat_Int, Bool.not_not, false_eq_decide, true_eq_decide, hread0, hreadk, read_cons0, read_consk, astore_h0, astore_hk, hget0, hgetk, hset0, hsetk, hlen, hcat, Nat.add_assoc, Nat.add_zero, Nat.zero_add, List.length_append, and_true, true_and, AV.flat, *, -hK, -ic] | with_reducible refine IfB_dec (fun h => ?_) (fun h => ?_) | with_reducible refine Guard_dec (fun h => ?_) (fun h => ?_) | with_reducible refine Guard_ndec (fun h => ?_) (fun h => ?_) | with_reducible refine Guard_not (fun h => ?_) (fun h => ?_) | with_reducible refine IfB_ndec (fun h => ?_) (fun h => ?_) | with_reducible refine IfB_not (fun h => ?_) (fun h => ?_) | with_reducible refine Guard_split (fun h => ?_) (fun h => ?_) | with_reducible refine IfB_split (fun h => ?_) (fun h => ?_))
  have hb1 : (H ++ [(⟨[statE.lst a.ts, .bool a.dr], 0, .full⟩ : Blk)] : Heap)[H.length]? = some ⟨[statE.lst a.ts, .bool a.dr], 0, .full⟩ := by rw [hget0]; rfl
  refine WX_loopS [1] (fun k fr' H' => ∃ i : Nat, k = a.ts.length - i ∧ i ≤ a.ts.length ∧ fr'.get 3 = .int .i64 i ∧ H'[H.length]? = some ⟨[statE.lst a.ts, .bool a.dr], 0, .full⟩ ∧ Keep none H H' ∧ ∀ q (hq : q < i) (hx : q < a.ts.length), a.ts[q].may) a.ts.length ⟨0, rfl, by omega, by simp only [go_sem, Nat.reduceLT, Nat.reduceEqDiff, Nat.reduceAdd, Nat.reduceMul, Nat.reduceSub, Nat.reduceLeDiff, Int.reduceToNat, Int.reduceNeg, Int.reduceLT, Int.reduceLE, Int.reduceEq, reduceCtorEq]; rfl, hb1, Keep.app _ _ _, fun q hq => by omega⟩ ?_
  clear hb1
  rintro k fr' H1 A R hA hs hg hR ⟨i, rfl, hi, f3, g0, kk, hall⟩
  have s1 := hg 1 (by decide)
  simp only [Fr.get_put, Fr.get_init, List.getD_cons_zero, List.getD_cons_succ, Nat.reduceEqDiff, if_true, if_false] at s1
  refine wx_sound hT _ ?_
  by_cases hlt : i < a.ts.length
  · have i3 : (i : Int) < a.ts.length := by omega
    have e1 := at_enc (E := statE) (T := T) (k := .i64) se22 hlt rfl
    have e3 := inc_id hlt hn
    have hmem := List.getElem_mem hlt
    have back : ∀ fr2 J, A fr2 → a.ts[i].may → fr2.get 3 = .int .i64 ((i + 1 : Nat) : Int) → J[H.length]? = some ⟨[statE.lst a.ts, .bool a.dr], 0, .full⟩ → Keep none H J → R fr2 J := fun fr2 J ha hmi g1 g2 g3 => hR fr2 J ha (a.ts.length - (i + 1)) (by omega) ⟨i + 1, rfl, by omega, g1, g2, g3, fun q hq hx => (Classical.em (q = i)).elim (fun e => by subst e; exact hmi) (fun e => hall q (by omega) hx)⟩
    have hmay : a.may → a.ts[i].may := fun h => h.2.2 _ hmem
    clear hR hmem
    generalize a.ts[i] = s at *
    rw [statE_cells] at e1
    by_cases q0 : inC s.gets
    rotate_left
    · have hmb : ¬ a.may := fun h => q0 ((hmay h).2.1)
      rw [decide_eq_false hmb] at hK
      repeat' (first | simp only [go_sem, Nat.reduceLT, Nat.reduceEqDiff, Nat.reduceAdd, Nat.reduceMul, Nat.reduceSub, Nat.reduceLeDiff, Int.reduceToNat, Int.reduceNeg, Int.reduceLT, Int.reduceLE, Int.reduceEq, reduceCtorEq, Int.natCast_zero, Int.natCast_one, Int.cast_ofNat_Int, Bool.not_not, false_eq_decide, true_eq_decide, hread0, hreadk, read_cons0, read_consk, astore_h0, astore_hk, hget0, hgetk, hset0, hsetk, hlen, hcat, Nat.add_assoc, Nat.add_zero, Nat.zero_add, List.length_append, and_true, true_and, AV.flat, g0, get_app g0, read_get g0, read_app g0, *, -hK, -hall, -kk, -ic, -hmb, -back, -hmay] | refine WC.call (ic _ _) ?_ | with_reducible refine IfB_dec (fun h => ?_) (fun h => ?_) | with_reducible refine Guard_dec (fun h => ?_) (fun h => ?_) | with_reducible refine Guard_ndec (fun h => ?_) (fun h => ?_) | with_reducible refine Guard_not (fun h => ?_) (fun h => ?_) | with_reducible refine IfB_ndec (fun h => ?_) (fun h => ?_) | with_reducible refine IfB_not (fun h => ?_) (fun h => ?_) | with_reducible refine Guard_split (fun h => ?_) (fun h => ?_) | with_reducible refine IfB_split (fun h => ?_) (fun h => ?_))
      exact hK _ _ (.bool _) (kk.trans (Keep.app _ _ _))
    by_cases q1 : inC s.hits
    rotate_left
    · have hmb : ¬ a.may := fun h => q1 ((hmay h).2.2.1)
      rw [decide_eq_false hmb] at hK
      repeat' (first | simp only [go_sem, Nat.reduceLT, Nat.reduceEqDiff, Nat.reduceAdd, Nat.reduceMul, Nat.reduceSub, Nat.reduceLeDiff, Int.reduceToNat, Int.reduceNeg, Int.reduceLT, Int.reduceLE, Int.reduceEq, reduceCtorEq, Int.natCast_zero, Int.natCast_one, Int.cast_ofNat_Int, Bool.not_not, false_eq_decide, true_eq_decide, hread0, hreadk, read_cons0, read_consk, astore_h0, astore_hk, hget0, hgetk, hset0, hsetk, hlen, hcat, Nat.add_assoc, Nat.add_zero, Nat.zero_add, List.length_append, and_true, true_and, AV.flat, g0, get_app g0, read_get g0, read_app g0, *, -hK, -hall, -kk, -ic, -hmb, -back, -hmay] | refine WC.call (ic _ _) ?_ | with_reducible refine IfB_dec (fun h => ?_) (fun h => ?_) | with_reducible refine Guard_dec (fun h => ?_) (fun h => ?_) | with_reducible refine Guard_ndec (fun h => ?_) (fun h => ?_) | with_reducible refine Guard_not (fun h => ?_) (fun h => ?_) | with_reducible refine IfB_ndec (fun h => ?_) (fun h => ?_) | with_reducible refine IfB_not (fun h => ?_) (fun h => ?_) | with_reducible refine Guard_split (fun h => ?_) (fun h => ?_) | with_reducible refine IfB_split (fun h => ?_) (fun h => ?_))
      exact hK _ _ (.bool _) (kk.trans (Keep.app _ _ _))
    by_cases q2 : inC s.puts
    rotate_left
    · have hmb : ¬ a.may := fun h => q2 ((hmay h).2.2.2.1)
      rw [decide_eq_false hmb] at hK
      repeat' (first | simp only [go_sem, Nat.reduceLT, Nat.reduceEqDiff, Nat.reduceAdd, Nat.reduceMul, Nat.reduceSub, Nat.reduceLeDiff, Int.reduceToNat, Int.reduceNeg, Int.reduceLT, Int.reduceLE, Int.reduceEq, reduceCtorEq, Int.natCast_zero, Int.natCast_one, Int.cast_ofNat_Int, Bool.not_not, false_eq_decide, true_eq_decide, hread0, hreadk, read_cons0, read_consk, astore_h0, astore_hk, hget0, hgetk, hset0, hsetk, hlen, hcat, Nat.add_assoc, Nat.add_zero, Nat.zero_add, List.length_append, and_true, true_and, AV.flat, g0, get_app g0, read_get g0, read_app g0, *, -hK, -hall, -kk, -ic, -hmb, -back, -hmay] | refine WC.call (ic _ _) ?_ | with_reducible refine IfB_dec (fun h => ?_) (fun h => ?_) | with_reducible refine Guard_dec (fun h => ?_) (fun h => ?_) | with_reducible refine Guard_ndec (fun h => ?_) (fun h => ?_) | with_reducible refine Guard_not (fun h => ?_) (fun h => ?_) | with_reducible refine IfB_ndec (fun h => ?_) (fun h => ?_) | with_reducible refine IfB_not (fun h => ?_) (fun h => ?_) | with_reducible refine Guard_split (fun h => ?_) (fun h => ?_) | with_reducible refine IfB_split (fun h => ?_) (fun h => ?_))
      exact hK _ _ (.bool _) (kk.trans (Keep.app _ _ _))
    by_cases q3 : inC s.del
    rotate_left
    · have hmb : ¬ a.may := fun h => q3 ((hmay h).2.2.2.2.1)
      rw [decide_eq_false hmb] at hK
      repeat' (first | simp only [go_sem, Nat.reduceLT, Nat.reduceEqDiff, Nat.reduceAdd, Nat.reduceMul, Nat.reduceSub, Nat.reduceLeDiff, Int.reduceToNat, Int.reduceNeg, Int.reduceLT, Int.reduceLE, Int.reduceEq, reduceCtorEq, Int.natCast_zero, Int.natCast_one, Int.cast_ofNat_Int, Bool.not_not, false_eq_decide, true_eq_decide, hread0, hreadk, read_cons0, read_consk, astore_h0, astore_hk, hget0, hgetk, hset0, hsetk, hlen, hcat, Nat.add_assoc, Nat.add_zero, Nat.zero_add, List.length_append, and_true, true_and, AV.flat, g0, get_app g0, read_get g0, read_app g0, *, -hK, -hall, -kk, -ic, -hmb, -back, -hmay] | refine WC.call (ic _ _) ?_ | with_reducible refine IfB_dec (fun h => ?_) (fun h => ?_) | with_reducible refine Guard_dec (fun h => ?_) (fun h => ?_) | with_reducible refine Guard_ndec (fun h => ?_) (fun h => ?_) | with_reducible refine Guard_not (fun h => ?_) (fun h => ?_) | with_reducible refine IfB_ndec (fun h => ?_) (fun h => ?_) | with_reducible refine IfB_not (fun h => ?_) (fun h => ?_) | with_reducible refine Guard_split (fun h => ?_) (fun h => ?_) | with_reducible refine IfB_split (fun h => ?_) (fun h => ?_))
      exact hK _ _ (.bool _) (kk.trans (Keep.app _ _ _))
    by_cases q4 : inC s.evi
    rotate_left
    · have hmb : ¬ a.may := fun h => q4 ((hmay h).2.2.2.2.2.1)
      rw [decide_eq_false hmb] at hK
      repeat' (first | simp only [go_sem, Nat.reduceLT, Nat.reduceEqDiff, Nat.reduceAdd, Nat.reduceMul, Nat.reduceSub, Nat.reduceLeDiff, Int.reduceToNat, Int.reduceNeg, Int.reduceLT, Int.reduceLE, Int.reduceEq, reduceCtorEq, Int.natCast_zero, Int.natCast_one, Int.cast_ofNat_Int, Bool.not_not, false_eq_decide, true_eq_decide, hread0, hreadk, read_cons0, read_consk, astore_h0, astore_hk, hget0, hgetk, hset0, hsetk, hlen, hcat, Nat.add_assoc, Nat.add_zero, Nat.zero_add, List.length_append, and_true, true_and, AV.flat, g0, get_app g0, read_get g0, read_app g0, *, -hK, -hall, -kk, -ic, -hmb, -back, -hmay] | refine WC.call (ic _ _) ?_ | with_reducible refine IfB_dec (fun h => ?_) (fun h => ?_) | with_reducible refine Guard_dec (fun h => ?_) (fun h => ?_) | with_reducible refine Guard_ndec (fun h => ?_) (fun h => ?_) | with_reducible refine Guard_not (fun h => ?_) (fun h => ?_) | with_reducible refine IfB_ndec (fun h => ?_) (fun h => ?_) | with_reducible refine IfB_not (fun h => ?_) (fun h => ?_) | with_reducible refine Guard_split (fun h => ?_) (fun h => ?_) | with_reducible refine IfB_split (fun h => ?_) (fun h => ?_))
      exact hK _ _ (.bool _) (kk.trans (Keep.app _ _ _))
    by_cases q5 : inC s.ref
    rotate_left
    · have hmb : ¬ a.may := fun h => q5 ((hmay h).2.2.2.2.2.2)
      rw [decide_eq_false hmb] at hK
      repeat' (first | simp only [go_sem, Nat.reduceLT, Nat.reduceEqDiff, Nat.reduceAdd, Nat.reduceMul, Nat.reduceSub, Nat.reduceLeDiff, Int.reduceToNat, Int.reduceNeg, Int.reduceLT, Int.reduceLE, Int.reduceEq, reduceCtorEq, Int.natCast_zero, Int.natCast_one, Int.cast_ofNat_Int, Bool.not_not, false_eq_decide, true_eq_decide, hread0, hreadk, read_cons0, read_consk, astore_h0, astore_hk, hget0, hgetk, hset0, hsetk, hlen, hcat, Nat.add_assoc, Nat.add_zero, Nat.zero_add, List.length_append, and_true, true_and, AV.flat, g0, get_app g0, read_get g0, read_app g0, *, -hK, -hall, -kk, -ic, -hmb, -back, -hmay] | refine WC.call (ic _ _) ?_ | with_reducible refine IfB_dec (fun h => ?_) (fun h => ?_) | with_reducible refine Guard_dec (fun h => ?_) (fun h => ?_) | with_reducible refine Guard_ndec (fun h => ?_) (fun h => ?_) | with_reducible refine Guard_not (fun h => ?_) (fun h => ?_) | with_reducible refine IfB_ndec (fun h => ?_) (fun h => ?_) | with_reducible refine IfB_not (fun h => ?_) (fun h => ?_) | with_reducible refine Guard_split (fun h => ?_) (fun h => ?_) | with_reducible refine IfB_split (fun h => ?_) (fun h => ?_))
      exact hK _ _ (.bool _) (kk.trans (Keep.app _ _ _))
    by_cases q6 : s.hits > s.gets
    · have hmb : ¬ a.may := fun h => by have := (hmay h).1; omega
      rw [decide_eq_false hmb] at hK
      repeat' (first | simp only [go_sem, Nat.reduceLT, Nat.reduceEqDiff, Nat.reduceAdd, Nat.reduceMul, Nat.reduceSub, Nat.reduceLeDiff, Int.reduceToNat, Int.reduceNeg, Int.reduceLT, Int.reduceLE, Int.reduceEq, reduceCtorEq, Int.natCast_zero, Int.natCast_one, Int.cast_ofNat_Int, Bool.not_not, false_eq_decide, true_eq_decide, hread0, hreadk, read_cons0, read_consk, astore_h0, astore_hk, hget0, hgetk, hset0, hsetk, hlen, hcat, Nat.add_assoc, Nat.add_zero, Nat.zero_add, List.length_append, and_true, true_and, AV.flat, g0, get_app g0, read_get g0, read_app g0, *, -hK, -hall, -kk, -ic, -hmb, -back, -hmay] | refine WC.call (ic _ _) ?_ | with_reducible refine IfB_dec (fun h => ?_) (fun h => ?_) | with_reducible refine Guard_dec (fun h => ?_) (fun h => ?_) | with_reducible refine Guard_ndec (fun h => ?_) (fun h => ?_) | with_reducible refine Guard_not (fun h => ?_) (fun h => ?_) | with_reducible refine IfB_ndec (fun h => ?_) (fun h => ?_) | with_reducible refine IfB_not (fun h => ?_) (fun h => ?_) | with_reducible refine Guard_split (fun h => ?_) (fun h => ?_) | with_reducible refine IfB_split (fun h => ?_) (fun h => ?_))
      exact hK _ _ (.bool _) (kk.trans (Keep.app _ _ _))
    have hmi : s.may := ⟨by omega, q0, q1, q2, q3, q4, q5⟩
    repeat' (first | simp only [go_sem, Nat.reduceLT, Nat.reduceEqDiff, Nat.reduceAdd, Nat.reduceMul, Nat.reduceSub, Nat.reduceLeDiff, Int.reduceToNat, Int.reduceNeg, Int.reduceLT, Int.reduceLE, Int.reduceEq, reduceCtorEq, Int.natCast_zero, Int.natCast_one, Int.cast_ofNat_Int, Bool.not_not, false_eq_decide, true_eq_decide, hread0, hreadk, read_cons0, read_consk, astore_h0, astore_hk, hget0, hgetk, hset0, hsetk, hlen, hcat, Nat.add_assoc, Nat.add_zero, Nat.zero_add, List.length_append, and_true, true_and, AV.flat, g0, get_app g0, read_get g0, read_app g0, *, -hK, -hall, -kk, -ic, -back, -hmay, -hmi] | refine WC.call (ic _ _) ?_ | with_reducible refine IfB_dec (fun h => ?_) (fun h => ?_) | with_reducible refine Guard_dec (fun h => ?_) (fun h => ?_) | with_reducible refine Guard_ndec (fun h => ?_) (fun h => ?_) | with_reducible refine Guard_not (fun h => ?_) (fun h => ?_) | with_reducible refine IfB_ndec (fun h => ?_) (fun h => ?_) | with_reducible refine IfB_not (fun h => ?_) (fun h => ?_) | with_reducible refine Guard_split (fun h => ?_) (fun h => ?_) | with_reducible refine IfB_split (fun h => ?_) (fun h => ?_))
    exact back _ _ (by (repeat (first | exact hs | refine hA _ _ _ (by decide) ?_))) hmi (by simp only [go_sem, Nat.reduceLT, Nat.reduceEqDiff, Nat.reduceAdd, Nat.reduceMul, Nat.reduceSub, Nat.reduceLeDiff, Int.reduceToNat, Int.reduceNeg, Int.reduceLT, Int.reduceLE, Int.reduceEq, reduceCtorEq]) (get_app g0 _) (kk.trans (Keep.app _ _ _))
  have i3 : ¬ (i : Int) < a.ts.length := by omega
  have hal : ∀ s ∈ a.ts, s.may := fun s hs => by obtain ⟨q, hq, rfl⟩ := List.getElem_of_mem hs; exact hall q (by omega) hq
  by_cases j1 : (a.ts.length : Int) ≥ 1
  · rw [show decide a.may = decide ((a.ts.length : Int) ≤ 4) by
      apply decide_eq_decide.2; exact ⟨fun h => by have := h.2.1; omega, fun h => ⟨by omega, by omega, hal⟩⟩] at hK
    by_cases j2 : (a.ts.length : Int) ≤ 4
    · rw [decide_eq_true j2] at hK
      repeat' (first | simp only [go_sem, Nat.reduceLT, Nat.reduceEqDiff, Nat.reduceAdd, Nat.reduceMul, Nat.reduceSub, Nat.reduceLeDiff, Int.reduceToNat, Int.reduceNeg, Int.reduceLT, Int.reduceLE, Int.reduceEq, reduceCtorEq, Int.natCast_zero, Int.natCast_one, Int.cast_ofNat_Int, Bool.not_not, false_eq_decide, true_eq_decide, hread0, hreadk, read_cons0, read_consk, astore_h0, astore_hk, hget0, hgetk, hset0, hsetk, hlen, hcat, Nat.add_assoc, Nat.add_zero, Nat.zero_add, List.length_append, and_true, true_and, AV.flat, g0, get_app g0, read_get g0, read_app g0, *, -hK, -hall, -kk, -hal] | with_reducible refine IfB_dec (fun h => ?_) (fun h => ?_) | with_reducible refine Guard_dec (fun h => ?_) (fun h => ?_) | with_reducible refine Guard_ndec (fun h => ?_) (fun h => ?_) | with_reducible refine Guard_not (fun h => ?_) (fun h => ?_) | with_reducible refine IfB_ndec (fun h => ?_) (fun h => ?_) | with_reducible refine IfB_not (fun h => ?_) (fun h => ?_) | with_reducible refine Guard_split (fun h => ?_) (fun h => ?_) | with_reducible refine IfB_split (fun h => ?_) (fun h => ?_))
      exact hK _ _ (.bool _) kk
    · rw [decide_eq_false j2] at hK
      repeat' (first | simp only [go_sem, Nat.reduceLT, Nat.reduceEqDiff, Nat.reduceAdd, Nat.reduceMul, Nat.reduceSub, Nat.reduceLeDiff, Int.reduceToNat, Int.reduceNeg, Int.reduceLT, Int.reduceLE, Int.reduceEq, reduceCtorEq, Int.natCast_zero, Int.natCast_one, Int.cast_ofNat_Int, Bool.not_not, false_eq_decide, true_eq_decide, hread0, hreadk, read_cons0, read_consk, astore_h0, astore_hk, hget0, hgetk, hset0, hsetk, hlen, hcat, Nat.add_assoc, Nat.add_zero, Nat.zero_add, List.length_append, and_true, true_and, AV.flat, g0, get_app g0, read_get g0, read_app g0, *, -hK, -hall, -kk, -hal] | with_reducible refine IfB_dec (fun h => ?_) (fun h => ?_) | with_reducible refine Guard_dec (fun h => ?_) (fun h => ?_) | with_reducible refine Guard_ndec (fun h => ?_) (fun h => ?_) | with_reducible refine Guard_not (fun h => ?_) (fun h => ?_) | with_reducible refine IfB_ndec (fun h => ?_) (fun h => ?_) | with_reducible refine IfB_not (fun h => ?_) (fun h => ?_) | with_reducible refine Guard_split (fun h => ?_) (fun h => ?_) | with_reducible refine IfB_split (fun h => ?_) (fun h => ?_))
      exact hK _ _ (.bool _) kk
  · rw [show decide a.may = false by apply decide_eq_false; exact fun h => by have := h.1; omega] at hK
    repeat' (first | simp only [go_sem, Nat.reduceLT, Nat.reduceEqDiff, Nat.reduceAdd, Nat.reduceMul, Nat.reduceSub, Nat.reduceLeDiff, Int.reduceToNat, Int.reduceNeg, Int.reduceLT, Int.reduceLE, Int.reduceEq, reduceCtorEq, Int.natCast_zero, Int.natCast_one, Int.cast_ofNat_Int, Bool.not_not, false_eq_decide, true_eq_decide, hread0, hreadk, read_cons0, read_consk, astore_h0, astore_hk, hget0, hgetk, hset0, hsetk, hlen, hcat, Nat.add_assoc, Nat.add_zero, Nat.zero_add, List.length_append, and_true, true_and, AV.flat, g0, get_app g0, read_get g0, read_app g0, *, -hK, -hall, -kk, -hal] | with_reducible refine IfB_dec (fun h => ?_) (fun h => ?_) | with_reducible refine Guard_dec (fun h => ?_) (fun h => ?_) | with_reducible refine Guard_ndec (fun h => ?_) (fun h => ?_) | with_reducible refine Guard_not (fun h => ?_) (fun h => ?_) | with_reducible refine IfB_ndec (fun h => ?_) (fun h => ?_) | with_reducible refine IfB_not (fun h => ?_) (fun h => ?_) | with_reducible refine Guard_split (fun h => ?_) (fun h => ?_) | with_reducible refine IfB_split (fun h => ?_) (fun h => ?_))
    exact hK _ _ (.bool _) kk
end Go.Proofs.Ytinejbofnjndnaa
