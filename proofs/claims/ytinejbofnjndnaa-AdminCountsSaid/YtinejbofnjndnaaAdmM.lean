import Derived.Test.YtinejbofnjndnaaAdmG
set_option linter.unusedSimpArgs false
set_option linter.unusedVariables false
set_option maxRecDepth 100000
set_option maxHeartbeats 4000000
namespace Go.Proofs.Ytinejbofnjndnaa
open Go Go.Proofs Go.Proofs.PI
open Classical
theorem refCheckA_spec (a : Adm) (hn : a.ts.length ≤ 140737488355328) (H : Heap) : WC Try.prog 24 [a.av] H fun r H' => r = .int .i64 (admE a) ∧ H' = H := by
  refine WC_val fun K hK => ?_
  have c1 := fun J => refMayA_spec a hn J
  unfold Adm.av at *
  by_cases hm : a.may
  · rw [admE_ok hm] at hK
    rw [decide_eq_true hm] at c1
    refine WC_of_body hT Try.func24 rfl (by simp [Try.f24]) (by simp [Try.f24]) (wx_sound hT _ ?_)
    simp only [Try.f24]
    repeat' (first | simp only [go_sem, Nat.reduceLT, Nat.reduceEqDiff, Nat.reduceAdd, Nat.reduceMul, Nat.reduceSub, Nat.reduceLeDiff, Int.reduceToNat, Int.reduceNeg, Int.reduceLT, Int.reduceLE, Int.reduceEq, reduceCtorEq, Int.natCast_zero, Int.natCast_one, Int.cast_ofNat_Int, Bool.not_not, false_eq_decide, true_eq_decide, hread0, hreadk, read_cons0, read_consk, astore_h0, astore_hk, hget0, hgetk, hset0, hsetk, hlen, hcat, Nat.add_assoc, Nat.add_zero, Nat.zero_add, List.length_append, and_true, true_and, AV.flat, *, -hK, -hm] | refine WC.call (c1 _) ?_ | with_reducible refine IfB_dec (fun h => ?_) (fun h => ?_) | with_reducible refine Guard_dec (fun h => ?_) (fun h => ?_) | with_reducible refine Guard_ndec (fun h => ?_) (fun h => ?_) | with_reducible refine Guard_not (fun h => ?_) (fun h => ?_) | with_reducible refine IfB_ndec (fun h => ?_) (fun h => ?_) | with_reducible refine IfB_not (fun h => ?_) (fun h => ?_) | with_reducible refine Guard_split (fun h => ?_) (fun h => ?_) | with_reducible refine IfB_split (fun h => ?_) (fun h => ?_))
    exact hK _ _ (.int _ _) (Keep.app _ _ _)
  · rw [admE_bad hm] at hK
    rw [decide_eq_false hm] at c1
    refine WC_of_body hT Try.func24 rfl (by simp [Try.f24]) (by simp [Try.f24]) (wx_sound hT _ ?_)
    simp only [Try.f24]
    repeat' (first | simp only [go_sem, Nat.reduceLT, Nat.reduceEqDiff, Nat.reduceAdd, Nat.reduceMul, Nat.reduceSub, Nat.reduceLeDiff, Int.reduceToNat, Int.reduceNeg, Int.reduceLT, Int.reduceLE, Int.reduceEq, reduceCtorEq, Int.natCast_zero, Int.natCast_one, Int.cast_ofNat_Int, Bool.not_not, false_eq_decide, true_eq_decide, hread0, hreadk, read_cons0, read_consk, astore_h0, astore_hk, hget0, hgetk, hset0, hsetk, hlen, hcat, Nat.add_assoc, Nat.add_zero, Nat.zero_add, List.length_append, and_true, true_and, AV.flat, *, -hK, -hm] | refine WC.call (c1 _) ?_ | with_reducible refine IfB_dec (fun h => ?_) (fun h => ?_) | with_reducible refine Guard_dec (fun h => ?_) (fun h => ?_) | with_reducible refine Guard_ndec (fun h => ?_) (fun h => ?_) | with_reducible refine Guard_not (fun h => ?_) (fun h => ?_) | with_reducible refine IfB_ndec (fun h => ?_) (fun h => ?_) | with_reducible refine IfB_not (fun h => ?_) (fun h => ?_) | with_reducible refine Guard_split (fun h => ?_) (fun h => ?_) | with_reducible refine IfB_split (fun h => ?_) (fun h => ?_))
    exact hK _ _ (.int _ _) (Keep.app _ _ _)
theorem refStat_spec (a : Adm) (t : Int) (hn : a.ts.length ≤ 1000000) (H : Heap) : WC Try.prog 22 [a.av, .int .i64 t] H fun w H' => w = .tup [(statL a t).1.av, .int .i64 (statL a t).2] ∧ H' = H := by
  refine WC_val fun K hK => ?_
  have c1 := fun J => refMayA_spec a (by omega) J
  unfold statL at hK
  unfold Adm.av at *
  by_cases hm : a.may
  rotate_left
  · rw [if_pos hm] at hK
    rw [decide_eq_false hm] at c1
    refine WC_of_body hT Try.func22 rfl (by simp [Try.f22]) (by simp [Try.f22]) (wx_sound hT _ ?_)
    simp only [Try.f22]
    repeat' (first | simp only [go_sem, Nat.reduceLT, Nat.reduceEqDiff, Nat.reduceAdd, Nat.reduceMul, Nat.reduceSub, Nat.reduceLeDiff, Int.reduceToNat, Int.reduceNeg, Int.reduceLT, Int.reduceLE, Int.reduceEq, reduceCtorEq, Int.natCast_zero, Int.natCast_one, Int.cast_ofNat_Int, Bool.not_not, false_eq_decide, true_eq_decide, hread0, hreadk, read_cons0, read_consk, astore_h0, astore_hk, hget0, hgetk, hset0, hsetk, hlen, hcat, Nat.add_assoc, Nat.add_zero, Nat.zero_add, List.length_append, and_true, true_and, AV.flat, *, -hK, -hm] | refine WC.call (c1 _) ?_ | with_reducible refine IfB_dec (fun h => ?_) (fun h => ?_) | with_reducible refine Guard_dec (fun h => ?_) (fun h => ?_) | with_reducible refine Guard_ndec (fun h => ?_) (fun h => ?_) | with_reducible refine Guard_not (fun h => ?_) (fun h => ?_) | with_reducible refine IfB_ndec (fun h => ?_) (fun h => ?_) | with_reducible refine IfB_not (fun h => ?_) (fun h => ?_) | with_reducible refine Guard_split (fun h => ?_) (fun h => ?_) | with_reducible refine IfB_split (fun h => ?_) (fun h => ?_))
    exact hK _ _ (Thaw.tup_row ⟨Thaw.agg_row ⟨.int _ _, .int _ _, .int _ _, .int _ _, .int _ _, .int _ _, trivial⟩, .int _ _, trivial⟩) (Keep.app _ _ _)
  rw [if_neg (fun h => h hm)] at hK
  rw [decide_eq_true hm] at c1
  by_cases ht : 0 ≤ t ∧ t.toNat < a.ts.length
  · rw [dif_pos ht] at hK
    obtain ⟨k, rfl⟩ : ∃ k : Nat, t = (k : Int) := ⟨t.toNat, by omega⟩
    have hlt : k < a.ts.length := by have := ht.2; omega
    have i1 : ¬ (k : Int) < 0 := by omega
    have i2 : ¬ (k : Int) ≥ a.ts.length := by omega
    have e1 := at_enc (E := statE) (T := T) (k := .i64) se22 hlt rfl
    simp only [Int.toNat_natCast] at hK
    refine WC_of_body hT Try.func22 rfl (by simp [Try.f22]) (by simp [Try.f22]) (wx_sound hT _ ?_)
    simp only [Try.f22]
    repeat' (first | simp only [go_sem, Nat.reduceLT, Nat.reduceEqDiff, Nat.reduceAdd, Nat.reduceMul, Nat.reduceSub, Nat.reduceLeDiff, Int.reduceToNat, Int.reduceNeg, Int.reduceLT, Int.reduceLE, Int.reduceEq, reduceCtorEq, Int.natCast_zero, Int.natCast_one, Int.cast_ofNat_Int, Bool.not_not, false_eq_decide, true_eq_decide, hread0, hreadk, read_cons0, read_consk, astore_h0, astore_hk, hget0, hgetk, hset0, hsetk, hlen, hcat, Nat.add_assoc, Nat.add_zero, Nat.zero_add, List.length_append, and_true, true_and, AV.flat, statE_cells, *, -hK, -hm, -ht] | refine WC.call (c1 _) ?_ | with_reducible refine IfB_dec (fun h => ?_) (fun h => ?_) | with_reducible refine Guard_dec (fun h => ?_) (fun h => ?_) | with_reducible refine Guard_ndec (fun h => ?_) (fun h => ?_) | with_reducible refine Guard_not (fun h => ?_) (fun h => ?_) | with_reducible refine IfB_ndec (fun h => ?_) (fun h => ?_) | with_reducible refine IfB_not (fun h => ?_) (fun h => ?_) | with_reducible refine Guard_split (fun h => ?_) (fun h => ?_) | with_reducible refine IfB_split (fun h => ?_) (fun h => ?_))
    exact hK _ _ (Thaw.tup_row ⟨Thaw.agg_row ⟨.int _ _, .int _ _, .int _ _, .int _ _, .int _ _, .int _ _, trivial⟩, .int _ _, trivial⟩) (Keep.app _ _ _)
  · rw [dif_neg ht] at hK
    by_cases i1 : t < 0
    · skip
      refine WC_of_body hT Try.func22 rfl (by simp [Try.f22]) (by simp [Try.f22]) (wx_sound hT _ ?_)
      simp only [Try.f22]
      repeat' (first | simp only [go_sem, Nat.reduceLT, Nat.reduceEqDiff, Nat.reduceAdd, Nat.reduceMul, Nat.reduceSub, Nat.reduceLeDiff, Int.reduceToNat, Int.reduceNeg, Int.reduceLT, Int.reduceLE, Int.reduceEq, reduceCtorEq, Int.natCast_zero, Int.natCast_one, Int.cast_ofNat_Int, Bool.not_not, false_eq_decide, true_eq_decide, hread0, hreadk, read_cons0, read_consk, astore_h0, astore_hk, hget0, hgetk, hset0, hsetk, hlen, hcat, Nat.add_assoc, Nat.add_zero, Nat.zero_add, List.length_append, and_true, true_and, AV.flat, *, -hK, -hm, -ht] | refine WC.call (c1 _) ?_ | with_reducible refine IfB_dec (fun h => ?_) (fun h => ?_) | with_reducible refine Guard_dec (fun h => ?_) (fun h => ?_) | with_reducible refine Guard_ndec (fun h => ?_) (fun h => ?_) | with_reducible refine Guard_not (fun h => ?_) (fun h => ?_) | with_reducible refine IfB_ndec (fun h => ?_) (fun h => ?_) | with_reducible refine IfB_not (fun h => ?_) (fun h => ?_) | with_reducible refine Guard_split (fun h => ?_) (fun h => ?_) | with_reducible refine IfB_split (fun h => ?_) (fun h => ?_))
      exact hK _ _ (Thaw.tup_row ⟨Thaw.agg_row ⟨.int _ _, .int _ _, .int _ _, .int _ _, .int _ _, .int _ _, trivial⟩, .int _ _, trivial⟩) (Keep.app _ _ _)
    · have i2 : t ≥ (a.ts.length : Int) := by omega
      refine WC_of_body hT Try.func22 rfl (by simp [Try.f22]) (by simp [Try.f22]) (wx_sound hT _ ?_)
      simp only [Try.f22]
      repeat' (first | simp only [go_sem, Nat.reduceLT, Nat.reduceEqDiff, Nat.reduceAdd, Nat.reduceMul, Nat.reduceSub, Nat.reduceLeDiff, Int.reduceToNat, Int.reduceNeg, Int.reduceLT, Int.reduceLE, Int.reduceEq, reduceCtorEq, Int.natCast_zero, Int.natCast_one, Int.cast_ofNat_Int, Bool.not_not, false_eq_decide, true_eq_decide, hread0, hreadk, read_cons0, read_consk, astore_h0, astore_hk, hget0, hgetk, hset0, hsetk, hlen, hcat, Nat.add_assoc, Nat.add_zero, Nat.zero_add, List.length_append, and_true, true_and, AV.flat, *, -hK, -hm, -ht] | refine WC.call (c1 _) ?_ | with_reducible refine IfB_dec (fun h => ?_) (fun h => ?_) | with_reducible refine Guard_dec (fun h => ?_) (fun h => ?_) | with_reducible refine Guard_ndec (fun h => ?_) (fun h => ?_) | with_reducible refine Guard_not (fun h => ?_) (fun h => ?_) | with_reducible refine IfB_ndec (fun h => ?_) (fun h => ?_) | with_reducible refine IfB_not (fun h => ?_) (fun h => ?_) | with_reducible refine Guard_split (fun h => ?_) (fun h => ?_) | with_reducible refine IfB_split (fun h => ?_) (fun h => ?_))
      exact hK _ _ (Thaw.tup_row ⟨Thaw.agg_row ⟨.int _ _, .int _ _, .int _ _, .int _ _, .int _ _, .int _ _, trivial⟩, .int _ _, trivial⟩) (Keep.app _ _ _)
theorem refDrain_own (a : Adm) (hn : a.ts.length ≤ 1000000) (H : Heap) : WC Try.prog 21 [a.av] H fun w H' => (∃ v, w = .tup [.agg [v, .bool (drainL a).1.dr], .int .i64 (drainL a).2] ∧ OwnE statE H.length H' v (drainL a).1.ts) ∧ Keep none H H' := by
  refine WC_of_K fun K hK => ?_
  have c1 := fun J => refMayA_spec a (by omega) J
  unfold drainL at hK
  unfold Adm.av at *
  by_cases hm : a.may
  rotate_left
  · rw [if_neg hm] at hK
    rw [decide_eq_false hm] at c1
    refine WC_of_body hT Try.func21 rfl (by simp [Try.f21]) (by simp [Try.f21]) (wx_sound hT _ ?_)
    simp only [Try.f21]
    repeat' (first | simp only [go_sem, Nat.reduceLT, Nat.reduceEqDiff, Nat.reduceAdd, Nat.reduceMul, Nat.reduceSub, Nat.reduceLeDiff, Int.reduceToNat, Int.reduceNeg, Int.reduceLT, Int.reduceLE, Int.reduceEq, reduceCtorEq, Int.natCast_zero, Int.natCast_one, Int.cast_ofNat_Int, Bool.not_not, false_eq_decide, true_eq_decide, hread0, hreadk, read_cons0, read_consk, astore_h0, astore_hk, hget0, hgetk, hset0, hsetk, hlen, hcat, Nat.add_assoc, Nat.add_zero, Nat.zero_add, List.length_append, and_true, true_and, AV.flat, *, -hK, -hm] | refine WC.call (c1 _) ?_ | with_reducible refine IfB_dec (fun h => ?_) (fun h => ?_) | with_reducible refine Guard_dec (fun h => ?_) (fun h => ?_) | with_reducible refine Guard_ndec (fun h => ?_) (fun h => ?_) | with_reducible refine Guard_not (fun h => ?_) (fun h => ?_) | with_reducible refine IfB_ndec (fun h => ?_) (fun h => ?_) | with_reducible refine IfB_not (fun h => ?_) (fun h => ?_) | with_reducible refine Guard_split (fun h => ?_) (fun h => ?_) | with_reducible refine IfB_split (fun h => ?_) (fun h => ?_))
    exact hK _ _ ⟨⟨.nils, rfl, OwnE.nils _ _ _⟩, Keep.app _ _ _⟩
  rw [if_pos hm] at hK
  rw [decide_eq_true hm] at c1
  refine WC_of_body hT Try.func21 rfl (by simp [Try.f21]) (by simp [Try.f21]) (wx_sound hT _ ?_)
  simp only [Try.f21]
  repeat' (first | simp only [go_sem, Nat.reduceLT, Nat.reduceEqDiff, Nat.reduceAdd, Nat.reduceMul, Nat.reduceSub, Nat.reduceLeDiff, Int.reduceToNat, Int.reduceNeg, Int.reduceLT, Int.reduceLE, Int.reduceEq, reduceCtorEq, Int.natCast_zero, Int.natCast_one, Int.cast_ofNat_Int, Bool.not_not, false_eq_decide, true_eq_decide, hread0, hreadk, read_cons0, read_consk, astore_h0, astore_hk, hget0, hgetk, hset0, hsetk, hlen, hcat, Nat.add_assoc, Nat.add_zero, Nat.zero_add, List.length_append, and_true, true_and, AV.flat, *, -hK, -hm] | refine WC.call (c1 _) ?_ | with_reducible refine IfB_dec (fun h => ?_) (fun h => ?_) | with_reducible refine Guard_dec (fun h => ?_) (fun h => ?_) | with_reducible refine Guard_ndec (fun h => ?_) (fun h => ?_) | with_reducible refine Guard_not (fun h => ?_) (fun h => ?_) | with_reducible refine IfB_ndec (fun h => ?_) (fun h => ?_) | with_reducible refine IfB_not (fun h => ?_) (fun h => ?_) | with_reducible refine Guard_split (fun h => ?_) (fun h => ?_) | with_reducible refine IfB_split (fun h => ?_) (fun h => ?_))
  refine append_enc (E := statE) (xs := []) (ys := a.ts) (OwnE.nils _ (H.length + 3) _) se22 az47 td47 (src_enc tk22) (by decide) (by show (0 + _) * _ ≤ _; simp only [statE]; omega) (by simp) ?_
  intro v H1 o k0 hn1
  rw [List.nil_append] at o
  have k : Keep none _ H1 := k0
  clear k0
  have hv := o.one
  have hb1 := k.get (b := H.length + 1) (B := ⟨[.nils, .bool false], 0, .full⟩) (by rw [hgetk]; rfl) (by simp)
  have hb2 := k.get (b := H.length + 2) (B := ⟨[.nils, .bool true], 0, .full⟩) (by rw [hgetk]; rfl) (by simp)
  have hne : ∀ b, v.blk = some b → H.length + 3 ≤ b := fun b hb => o.ge hb
  have hlt1 := k.len
  rw [List.length_append] at hlt1
  simp only [List.length_cons, List.length_nil] at hlt1
  have hbx : (List.set H1 (H.length + 2) ⟨[v, .bool true], 0, .full⟩)[H.length + 1]? = some (⟨[.nils, .bool false], 0, .full⟩ : Blk) := by rw [List.getElem?_set_ne (by omega)]; exact hb1
  clear c1
  repeat' (first | simp only [go_sem, Nat.reduceLT, Nat.reduceEqDiff, Nat.reduceAdd, Nat.reduceMul, Nat.reduceSub, Nat.reduceLeDiff, Int.reduceToNat, Int.reduceNeg, Int.reduceLT, Int.reduceLE, Int.reduceEq, reduceCtorEq, Int.natCast_zero, Int.natCast_one, Int.cast_ofNat_Int, Bool.not_not, false_eq_decide, true_eq_decide, hread0, hreadk, read_cons0, read_consk, astore_h0, astore_hk, hget0, hgetk, hset0, hsetk, hlen, hcat, Nat.add_assoc, Nat.add_zero, Nat.zero_add, List.length_append, and_true, true_and, AV.flat, hb2, get_app hb2, read_get hb2, read_app hb2, astore_get hb2, astore_app hb2, get_set hb2, get_set_app hb2, read_set hb2, read_set_app hb2, astore_set hb2, astore_set_app hb2, List.set_set, hget0s, hgetks, hread0s, hreadks, List.length_set, hbx, get_app hbx, read_get hbx, read_app hbx, astore_get hbx, astore_app hbx, get_set hbx, get_set_app hbx, read_set hbx, read_set_app hbx, astore_set hbx, astore_set_app hbx, List.set_set, hget0s, hgetks, hread0s, hreadks, List.length_set, hv, one_solid hv, one_cells hv, *, -hK, -o, -k, -hne, -hm, -hb1, -hn1] | with_reducible refine IfB_dec (fun h => ?_) (fun h => ?_) | with_reducible refine Guard_dec (fun h => ?_) (fun h => ?_) | with_reducible refine Guard_ndec (fun h => ?_) (fun h => ?_) | with_reducible refine Guard_not (fun h => ?_) (fun h => ?_) | with_reducible refine IfB_ndec (fun h => ?_) (fun h => ?_) | with_reducible refine IfB_not (fun h => ?_) (fun h => ?_) | with_reducible refine Guard_split (fun h => ?_) (fun h => ?_) | with_reducible refine IfB_split (fun h => ?_) (fun h => ?_))
  refine hK _ _ ⟨⟨v, rfl, ?_⟩, ?_⟩
  · exact OwnE.keep (OwnE.keep (Own.mono o (by omega)) (Keep.of_set rfl) (fun b hb e => by cases hb; have := hne _ e; omega)) (Keep.of_set rfl) (fun b hb e => by cases hb; have := hne _ e; omega)
  · refine ⟨by simp only [List.length_set]; omega, fun b hb _ => ?_⟩
    rw [List.getElem?_set_ne (by omega), List.getElem?_set_ne (by omega), k.at_ b (by simp; omega) (by simp), List.getElem?_append_left hb]
theorem sumA_step {ts : List Stat} {i : Nat} (h : i < ts.length) : sumA (ts.take (i + 1)) = (sumA (ts.take i)).add ts[i] := by
  unfold sumA; rw [List.take_succ_eq_append_getElem h, List.foldl_append]; rfl
def Stat.bd (s : Stat) (n : Int) : Prop := (0 ≤ s.gets ∧ s.gets ≤ n) ∧ (0 ≤ s.hits ∧ s.hits ≤ n) ∧ (0 ≤ s.puts ∧ s.puts ≤ n) ∧ (0 ≤ s.del ∧ s.del ≤ n) ∧ (0 ≤ s.evi ∧ s.evi ≤ n) ∧ (0 ≤ s.ref ∧ s.ref ≤ n)
theorem sumA_bd {ts : List Stat} (h : ∀ s ∈ ts, s.rng) : ∀ i, i ≤ ts.length → (sumA (ts.take i)).bd (i * 1099511627776)
  | 0, _ => by simp [sumA, stat0, Stat.bd]
  | i + 1, hi => by
    have ih := sumA_bd h i (by omega)
    have hr := h _ (List.getElem_mem (show i < ts.length by omega))
    rw [sumA_step (by omega)]
    simp only [Stat.bd, Stat.add, Stat.rng, inC] at *
    omega
theorem sum_spec (a : Adm) (hn : a.ts.length ≤ 1000000) (H : Heap) : WC Try.prog 18 [a.av] H fun w H' => w = .tup [(sumL a).1.av, .int .i64 (sumL a).2] ∧ H' = H := by
  refine WC_val fun K hK => ?_
  have c1 := fun J => admCheck_spec a (by omega) J
  unfold sumL at hK
  unfold Adm.av at *
  by_cases hm : a.may
  rotate_left
  · rw [if_neg hm] at hK
    rw [admE_bad hm] at c1
    refine WC_of_body hT Try.func18 rfl (by simp [Try.f18]) (by simp [Try.f18]) (wx_sound hT _ ?_)
    simp only [Try.f18]
    repeat' (first | simp only [go_sem, Nat.reduceLT, Nat.reduceEqDiff, Nat.reduceAdd, Nat.reduceMul, Nat.reduceSub, Nat.reduceLeDiff, Int.reduceToNat, Int.reduceNeg, Int.reduceLT, Int.reduceLE, Int.reduceEq, reduceCtorEq, Int.natCast_zero, Int.natCast_one, Int.cast_ofNat_Int, Bool.not_not, false_eq_decide, true_eq_decide, hread0, hreadk, read_cons0, read_consk, astore_h0, astore_hk, hget0, hgetk, hset0, hsetk, hlen, hcat, Nat.add_assoc, Nat.add_zero, Nat.zero_add, List.length_append, and_true, true_and, AV.flat, *, -hK, -hm] | refine WC.call (c1 _) ?_ | with_reducible refine IfB_dec (fun h => ?_) (fun h => ?_) | with_reducible refine Guard_dec (fun h => ?_) (fun h => ?_) | with_reducible refine Guard_ndec (fun h => ?_) (fun h => ?_) | with_reducible refine Guard_not (fun h => ?_) (fun h => ?_) | with_reducible refine IfB_ndec (fun h => ?_) (fun h => ?_) | with_reducible refine IfB_not (fun h => ?_) (fun h => ?_) | with_reducible refine Guard_split (fun h => ?_) (fun h => ?_) | with_reducible refine IfB_split (fun h => ?_) (fun h => ?_))
    exact hK _ _ (Thaw.tup_row ⟨Thaw.agg_row ⟨.int _ _, .int _ _, .int _ _, .int _ _, .int _ _, .int _ _, trivial⟩, .int _ _, trivial⟩) (Keep.app _ _ _)
  rw [if_pos hm] at hK
  rw [admE_ok hm] at c1
  refine WC_of_body hT Try.func18 rfl (by simp [Try.f18]) (by simp [Try.f18]) (wx_sound hT _ ?_)
  simp only [Try.f18]
  repeat' (first | simp only [go_sem, Nat.reduceLT, Nat.reduceEqDiff, Nat.reduceAdd, Nat.reduceMul, Nat.reduceSub, Nat.reduceLeDiff, Int.reduceToNat, Int.reduceNeg, Int.reduceLT, Int.reduceLE, Int.reduceEq, reduceCtorEq, Int.natCast_zero, Int.natCast_one, Int.cast_ofNat_Int, Bool.not_not, false_eq_decide, true_eq_decide, hread0, hreadk, read_cons0, read_consk, astore_h0, astore_hk, hget0, hgetk, hset0, hsetk, hlen, hcat, Nat.add_assoc, Nat.add_zero, Nat.zero_add, List.length_append, and_true, true_and, AV.flat, *, -hK, -hm] | refine WC.call (c1 _) ?_ | with_reducible refine IfB_dec (fun h => ?_) (fun h => ?_) | with_reducible refine Guard_dec (fun h => ?_) (fun h => ?_) | with_reducible refine Guard_ndec (fun h => ?_) (fun h => ?_) | with_reducible refine Guard_not (fun h => ?_) (fun h => ?_) | with_reducible refine IfB_ndec (fun h => ?_) (fun h => ?_) | with_reducible refine IfB_not (fun h => ?_) (fun h => ?_) | with_reducible refine Guard_split (fun h => ?_) (fun h => ?_) | with_reducible refine IfB_split (fun h => ?_) (fun h => ?_))
  clear c1
  generalize hG : (H ++ [(⟨[statE.lst a.ts, .bool a.dr], 0, .full⟩ : Blk), (⟨[.int .i64 0, .int .i64 0, .int .i64 0, .int .i64 0, .int .i64 0, .int .i64 0], 0, .full⟩ : Blk), (⟨[.int .i64 0, .int .i64 0, .int .i64 0, .int .i64 0, .int .i64 0, .int .i64 0], 0, .full⟩ : Blk)] : Heap) = G
  have g0' : G[H.length]? = some ⟨[statE.lst a.ts, .bool a.dr], 0, .full⟩ := by rw [← hG, hget0]; rfl
  have g1' : G[H.length + 1]? = some ⟨[.int .i64 0, .int .i64 0, .int .i64 0, .int .i64 0, .int .i64 0, .int .i64 0], 0, .full⟩ := by rw [← hG, hgetk]; rfl
  have g2' : G[H.length + 2]? = some ⟨(sumA (a.ts.take 0)).cs, 0, .full⟩ := by rw [← hG, hgetk]; rfl
  have kG : Keep none H G := by rw [← hG]; exact Keep.app _ _ _
  clear hG
  have hbd := sumA_bd (fun s hs => (hm.2.2 s hs).rng)
  refine WX_loopS [2, 5, 15, 16] (fun k fr' H' => ∃ i : Nat, k = a.ts.length - i ∧ i ≤ a.ts.length ∧ fr'.get 17 = .int .i64 i ∧ H'[H.length]? = some ⟨[statE.lst a.ts, .bool a.dr], 0, .full⟩ ∧ H'[H.length + 1]? = some ⟨[.int .i64 0, .int .i64 0, .int .i64 0, .int .i64 0, .int .i64 0, .int .i64 0], 0, .full⟩ ∧ H'[H.length + 2]? = some ⟨(sumA (a.ts.take i)).cs, 0, .full⟩ ∧ Keep none H H') a.ts.length ⟨0, rfl, by omega, by simp only [go_sem, Nat.reduceLT, Nat.reduceEqDiff, Nat.reduceAdd, Nat.reduceMul, Nat.reduceSub, Nat.reduceLeDiff, Int.reduceToNat, Int.reduceNeg, Int.reduceLT, Int.reduceLE, Int.reduceEq, reduceCtorEq]; rfl, g0', g1', g2', kG⟩ ?_
  clear g0' g1' g2' kG
  rintro k fr' H1 A R hA hs hg hR ⟨i, rfl, hi, fI, g0, g1, g2, kk⟩
  have s2 := hg 2 (by decide)
  have s5 := hg 5 (by decide)
  have s15 := hg 15 (by decide)
  have s16 := hg 16 (by decide)
  simp only [Fr.get_put, Fr.get_init, List.getD_cons_zero, List.getD_cons_succ, Nat.reduceEqDiff, if_true, if_false] at s2 s5 s15 s16
  refine wx_sound hT _ ?_
  have hb := hbd i hi
  have hl2 := (List.getElem?_eq_some_iff.1 g2).1
  by_cases hlt : i < a.ts.length
  rotate_left
  · have i3 : ¬ (i : Int) < a.ts.length := by omega
    rw [show i = a.ts.length by omega, List.take_length] at g2
    unfold Stat.cs at g2
    repeat' (first | simp only [go_sem, Nat.reduceLT, Nat.reduceEqDiff, Nat.reduceAdd, Nat.reduceMul, Nat.reduceSub, Nat.reduceLeDiff, Int.reduceToNat, Int.reduceNeg, Int.reduceLT, Int.reduceLE, Int.reduceEq, reduceCtorEq, Int.natCast_zero, Int.natCast_one, Int.cast_ofNat_Int, Bool.not_not, false_eq_decide, true_eq_decide, hread0, hreadk, read_cons0, read_consk, astore_h0, astore_hk, hget0, hgetk, hset0, hsetk, hlen, hcat, Nat.add_assoc, Nat.add_zero, Nat.zero_add, List.length_append, and_true, true_and, AV.flat, g1, get_app g1, read_get g1, read_app g1, astore_get g1, astore_app g1, get_set g1, get_set_app g1, read_set g1, read_set_app g1, astore_set g1, astore_set_app g1, List.set_set, hget0s, hgetks, hread0s, hreadks, List.length_set, g0, get_app g0, read_get g0, read_app g0, g2, get_app g2, read_get g2, read_app g2, *, -hK, -hm, -hbd, -hb, -kk] | with_reducible refine IfB_dec (fun h => ?_) (fun h => ?_) | with_reducible refine Guard_dec (fun h => ?_) (fun h => ?_) | with_reducible refine Guard_ndec (fun h => ?_) (fun h => ?_) | with_reducible refine Guard_not (fun h => ?_) (fun h => ?_) | with_reducible refine IfB_ndec (fun h => ?_) (fun h => ?_) | with_reducible refine IfB_not (fun h => ?_) (fun h => ?_) | with_reducible refine Guard_split (fun h => ?_) (fun h => ?_) | with_reducible refine IfB_split (fun h => ?_) (fun h => ?_))
    exact hK _ _ (Thaw.tup_row ⟨Thaw.agg_row ⟨.int _ _, .int _ _, .int _ _, .int _ _, .int _ _, .int _ _, trivial⟩, .int _ _, trivial⟩) ⟨by simp only [List.length_set]; have := kk.len; omega, fun b hb _ => by rw [List.getElem?_set_ne (by omega)]; exact kk.at_ b hb (by simp)⟩
  have i3 : (i : Int) < a.ts.length := by omega
  have e1 := at_enc (E := statE) (T := T) (k := .i64) se22 hlt rfl
  have e3 := inc_id hlt (show a.ts.length ≤ 140737488355328 by omega)
  have hr := (hm.2.2 _ (List.getElem_mem hlt)).rng
  have hst := sumA_step hlt
  have back : ∀ fr2, A fr2 → fr2.get 17 = .int .i64 ((i + 1 : Nat) : Int) → ∀ x : Blk, R fr2 (List.set H1 (H.length + 2) ⟨((sumA (a.ts.take i)).add a.ts[i]).cs, 0, .full⟩ ++ [x]) := fun fr2 ha h1 x => hR fr2 _ ha (a.ts.length - (i + 1)) (by omega) ⟨i + 1, rfl, by omega, h1, get_app (by rw [List.getElem?_set_ne (by omega)]; exact g0) _, get_app (by rw [List.getElem?_set_ne (by omega)]; exact g1) _, get_app (by rw [List.getElem?_set_self (by omega), hst]) _, ⟨by simp; have := kk.len; omega, fun b hb _ => by rw [List.getElem?_append_left (by simp; have := kk.len; omega), List.getElem?_set_ne (by omega)]; exact kk.at_ b hb (by simp)⟩⟩
  clear hR hst
  generalize sumA (a.ts.take i) = S at *
  generalize a.ts[i] = s at *
  obtain ⟨S1, S2, S3, S4, S5, S6⟩ := S
  obtain ⟨z1, z2, z3, z4, z5, z6⟩ := s
  simp only [Stat.bd, Stat.rng, inC] at hb hr
  have w1 : IntKind.i64.wrap (S1 + z1) = S1 + z1 := by rw [IntKind.wrap_i64]; omega
  have w2 : IntKind.i64.wrap (S2 + z2) = S2 + z2 := by rw [IntKind.wrap_i64]; omega
  have w3 : IntKind.i64.wrap (S3 + z3) = S3 + z3 := by rw [IntKind.wrap_i64]; omega
  have w4 : IntKind.i64.wrap (S4 + z4) = S4 + z4 := by rw [IntKind.wrap_i64]; omega
  have w5 : IntKind.i64.wrap (S5 + z5) = S5 + z5 := by rw [IntKind.wrap_i64]; omega
  have w6 : IntKind.i64.wrap (S6 + z6) = S6 + z6 := by rw [IntKind.wrap_i64]; omega
  rw [statE_cells] at e1
  unfold Stat.cs at g2
  simp only at e1 g2
  clear hb hr
  repeat' (first | simp only [go_sem, Nat.reduceLT, Nat.reduceEqDiff, Nat.reduceAdd, Nat.reduceMul, Nat.reduceSub, Nat.reduceLeDiff, Int.reduceToNat, Int.reduceNeg, Int.reduceLT, Int.reduceLE, Int.reduceEq, reduceCtorEq, Int.natCast_zero, Int.natCast_one, Int.cast_ofNat_Int, Bool.not_not, false_eq_decide, true_eq_decide, hread0, hreadk, read_cons0, read_consk, astore_h0, astore_hk, hget0, hgetk, hset0, hsetk, hlen, hcat, Nat.add_assoc, Nat.add_zero, Nat.zero_add, List.length_append, and_true, true_and, AV.flat, g0, get_app g0, read_get g0, read_app g0, g2, get_app g2, read_get g2, read_app g2, astore_get g2, astore_app g2, get_set g2, get_set_app g2, read_set g2, read_set_app g2, astore_set g2, astore_set_app g2, List.set_set, hget0s, hgetks, hread0s, hreadks, List.length_set, *, -hK, -g1, -hm, -hbd, -kk, -back] | with_reducible refine IfB_dec (fun h => ?_) (fun h => ?_) | with_reducible refine Guard_dec (fun h => ?_) (fun h => ?_) | with_reducible refine Guard_ndec (fun h => ?_) (fun h => ?_) | with_reducible refine Guard_not (fun h => ?_) (fun h => ?_) | with_reducible refine IfB_ndec (fun h => ?_) (fun h => ?_) | with_reducible refine IfB_not (fun h => ?_) (fun h => ?_) | with_reducible refine Guard_split (fun h => ?_) (fun h => ?_) | with_reducible refine IfB_split (fun h => ?_) (fun h => ?_))
  refine back _ ?_ ?_ ⟨[.int .i64 z1, .int .i64 z2, .int .i64 z3, .int .i64 z4, .int .i64 z5, .int .i64 z6], 0, .full⟩
  · (repeat (first | exact hs | refine hA _ _ _ (by decide) ?_))
  · simp only [go_sem, Nat.reduceLT, Nat.reduceEqDiff, Nat.reduceAdd, Nat.reduceMul, Nat.reduceSub, Nat.reduceLeDiff, Int.reduceToNat, Int.reduceNeg, Int.reduceLT, Int.reduceLE, Int.reduceEq, reduceCtorEq]
theorem refSum_spec (a : Adm) (hn : a.ts.length ≤ 1000000) (H : Heap) : WC Try.prog 23 [a.av] H fun w H' => w = .tup [(sumL a).1.av, .int .i64 (sumL a).2] ∧ H' = H := by
  refine WC_val fun K hK => ?_
  have c1 := fun J => refMayA_spec a (by omega) J
  unfold sumL at hK
  unfold Adm.av at *
  by_cases hm : a.may
  rotate_left
  · rw [if_neg hm] at hK
    rw [decide_eq_false hm] at c1
    refine WC_of_body hT Try.func23 rfl (by simp [Try.f23]) (by simp [Try.f23]) (wx_sound hT _ ?_)
    simp only [Try.f23]
    repeat' (first | simp only [go_sem, Nat.reduceLT, Nat.reduceEqDiff, Nat.reduceAdd, Nat.reduceMul, Nat.reduceSub, Nat.reduceLeDiff, Int.reduceToNat, Int.reduceNeg, Int.reduceLT, Int.reduceLE, Int.reduceEq, reduceCtorEq, Int.natCast_zero, Int.natCast_one, Int.cast_ofNat_Int, Bool.not_not, false_eq_decide, true_eq_decide, hread0, hreadk, read_cons0, read_consk, astore_h0, astore_hk, hget0, hgetk, hset0, hsetk, hlen, hcat, Nat.add_assoc, Nat.add_zero, Nat.zero_add, List.length_append, and_true, true_and, AV.flat, *, -hK, -hm] | refine WC.call (c1 _) ?_ | with_reducible refine IfB_dec (fun h => ?_) (fun h => ?_) | with_reducible refine Guard_dec (fun h => ?_) (fun h => ?_) | with_reducible refine Guard_ndec (fun h => ?_) (fun h => ?_) | with_reducible refine Guard_not (fun h => ?_) (fun h => ?_) | with_reducible refine IfB_ndec (fun h => ?_) (fun h => ?_) | with_reducible refine IfB_not (fun h => ?_) (fun h => ?_) | with_reducible refine Guard_split (fun h => ?_) (fun h => ?_) | with_reducible refine IfB_split (fun h => ?_) (fun h => ?_))
    exact hK _ _ (Thaw.tup_row ⟨Thaw.agg_row ⟨.int _ _, .int _ _, .int _ _, .int _ _, .int _ _, .int _ _, trivial⟩, .int _ _, trivial⟩) (Keep.app _ _ _)
  rw [if_pos hm] at hK
  rw [decide_eq_true hm] at c1
  refine WC_of_body hT Try.func23 rfl (by simp [Try.f23]) (by simp [Try.f23]) (wx_sound hT _ ?_)
  simp only [Try.f23]
  repeat' (first | simp only [go_sem, Nat.reduceLT, Nat.reduceEqDiff, Nat.reduceAdd, Nat.reduceMul, Nat.reduceSub, Nat.reduceLeDiff, Int.reduceToNat, Int.reduceNeg, Int.reduceLT, Int.reduceLE, Int.reduceEq, reduceCtorEq, Int.natCast_zero, Int.natCast_one, Int.cast_ofNat_Int, Bool.not_not, false_eq_decide, true_eq_decide, hread0, hreadk, read_cons0, read_consk, astore_h0, astore_hk, hget0, hgetk, hset0, hsetk, hlen, hcat, Nat.add_assoc, Nat.add_zero, Nat.zero_add, List.length_append, and_true, true_and, AV.flat, *, -hK, -hm] | refine WC.call (c1 _) ?_ | with_reducible refine IfB_dec (fun h => ?_) (fun h => ?_) | with_reducible refine Guard_dec (fun h => ?_) (fun h => ?_) | with_reducible refine Guard_ndec (fun h => ?_) (fun h => ?_) | with_reducible refine Guard_not (fun h => ?_) (fun h => ?_) | with_reducible refine IfB_ndec (fun h => ?_) (fun h => ?_) | with_reducible refine IfB_not (fun h => ?_) (fun h => ?_) | with_reducible refine Guard_split (fun h => ?_) (fun h => ?_) | with_reducible refine IfB_split (fun h => ?_) (fun h => ?_))
  clear c1
  generalize hG : (H ++ [(⟨[statE.lst a.ts, .bool a.dr], 0, .full⟩ : Blk), (⟨[.int .i64 0, .int .i64 0, .int .i64 0, .int .i64 0, .int .i64 0, .int .i64 0], 0, .full⟩ : Blk), (⟨[.int .i64 0, .int .i64 0, .int .i64 0, .int .i64 0, .int .i64 0, .int .i64 0], 0, .full⟩ : Blk)] : Heap) = G
  have g0' : G[H.length]? = some ⟨[statE.lst a.ts, .bool a.dr], 0, .full⟩ := by rw [← hG, hget0]; rfl
  have g1' : G[H.length + 1]? = some ⟨[.int .i64 0, .int .i64 0, .int .i64 0, .int .i64 0, .int .i64 0, .int .i64 0], 0, .full⟩ := by rw [← hG, hgetk]; rfl
  have g2' : G[H.length + 2]? = some ⟨(sumA (a.ts.take 0)).cs, 0, .full⟩ := by rw [← hG, hgetk]; rfl
  have kG : Keep none H G := by rw [← hG]; exact Keep.app _ _ _
  clear hG
  have hbd := sumA_bd (fun s hs => (hm.2.2 s hs).rng)
  refine WX_loopS [1, 2, 4] (fun k fr' H' => ∃ i : Nat, k = a.ts.length - i ∧ i ≤ a.ts.length ∧ fr'.get 5 = .int .i64 i ∧ H'[H.length]? = some ⟨[statE.lst a.ts, .bool a.dr], 0, .full⟩ ∧ H'[H.length + 1]? = some ⟨[.int .i64 0, .int .i64 0, .int .i64 0, .int .i64 0, .int .i64 0, .int .i64 0], 0, .full⟩ ∧ H'[H.length + 2]? = some ⟨(sumA (a.ts.take i)).cs, 0, .full⟩ ∧ Keep none H H') a.ts.length ⟨0, rfl, by omega, by simp only [go_sem, Nat.reduceLT, Nat.reduceEqDiff, Nat.reduceAdd, Nat.reduceMul, Nat.reduceSub, Nat.reduceLeDiff, Int.reduceToNat, Int.reduceNeg, Int.reduceLT, Int.reduceLE, Int.reduceEq, reduceCtorEq]; rfl, g0', g1', g2', kG⟩ ?_
  clear g0' g1' g2' kG
  rintro k fr' H1 A R hA hs hg hR ⟨i, rfl, hi, fI, g0, g1, g2, kk⟩
  have s1 := hg 1 (by decide)
  have s2 := hg 2 (by decide)
  have s4 := hg 4 (by decide)
  simp only [Fr.get_put, Fr.get_init, List.getD_cons_zero, List.getD_cons_succ, Nat.reduceEqDiff, if_true, if_false] at s1 s2 s4
  refine wx_sound hT _ ?_
  have hb := hbd i hi
  have hl2 := (List.getElem?_eq_some_iff.1 g2).1
  by_cases hlt : i < a.ts.length
  rotate_left
  · have i3 : ¬ (i : Int) < a.ts.length := by omega
    rw [show i = a.ts.length by omega, List.take_length] at g2
    unfold Stat.cs at g2
    repeat' (first | simp only [go_sem, Nat.reduceLT, Nat.reduceEqDiff, Nat.reduceAdd, Nat.reduceMul, Nat.reduceSub, Nat.reduceLeDiff, Int.reduceToNat, Int.reduceNeg, Int.reduceLT, Int.reduceLE, Int.reduceEq, reduceCtorEq, Int.natCast_zero, Int.natCast_one, Int.cast_ofNat_Int, Bool.not_not, false_eq_decide, true_eq_decide, hread0, hreadk, read_cons0, read_consk, astore_h0, astore_hk, hget0, hgetk, hset0, hsetk, hlen, hcat, Nat.add_assoc, Nat.add_zero, Nat.zero_add, List.length_append, and_true, true_and, AV.flat, g1, get_app g1, read_get g1, read_app g1, astore_get g1, astore_app g1, get_set g1, get_set_app g1, read_set g1, read_set_app g1, astore_set g1, astore_set_app g1, List.set_set, hget0s, hgetks, hread0s, hreadks, List.length_set, g0, get_app g0, read_get g0, read_app g0, g2, get_app g2, read_get g2, read_app g2, *, -hK, -hm, -hbd, -hb, -kk] | with_reducible refine IfB_dec (fun h => ?_) (fun h => ?_) | with_reducible refine Guard_dec (fun h => ?_) (fun h => ?_) | with_reducible refine Guard_ndec (fun h => ?_) (fun h => ?_) | with_reducible refine Guard_not (fun h => ?_) (fun h => ?_) | with_reducible refine IfB_ndec (fun h => ?_) (fun h => ?_) | with_reducible refine IfB_not (fun h => ?_) (fun h => ?_) | with_reducible refine Guard_split (fun h => ?_) (fun h => ?_) | with_reducible refine IfB_split (fun h => ?_) (fun h => ?_))
    exact hK _ _ (Thaw.tup_row ⟨Thaw.agg_row ⟨.int _ _, .int _ _, .int _ _, .int _ _, .int _ _, .int _ _, trivial⟩, .int _ _, trivial⟩) ⟨by simp only [List.length_set]; have := kk.len; omega, fun b hb _ => by rw [List.getElem?_set_ne (by omega)]; exact kk.at_ b hb (by simp)⟩
  have i3 : (i : Int) < a.ts.length := by omega
  have e1 := at_enc (E := statE) (T := T) (k := .i64) se22 hlt rfl
  have e3 := inc_id hlt (show a.ts.length ≤ 140737488355328 by omega)
  have hr := (hm.2.2 _ (List.getElem_mem hlt)).rng
  have hst := sumA_step hlt
  have back : ∀ fr2, A fr2 → fr2.get 5 = .int .i64 ((i + 1 : Nat) : Int) → ∀ x : Blk, R fr2 (List.set H1 (H.length + 2) ⟨((sumA (a.ts.take i)).add a.ts[i]).cs, 0, .full⟩ ++ [x]) := fun fr2 ha h1 x => hR fr2 _ ha (a.ts.length - (i + 1)) (by omega) ⟨i + 1, rfl, by omega, h1, get_app (by rw [List.getElem?_set_ne (by omega)]; exact g0) _, get_app (by rw [List.getElem?_set_ne (by omega)]; exact g1) _, get_app (by rw [List.getElem?_set_self (by omega), hst]) _, ⟨by simp; have := kk.len; omega, fun b hb _ => by rw [List.getElem?_append_left (by simp; have := kk.len; omega), List.getElem?_set_ne (by omega)]; exact kk.at_ b hb (by simp)⟩⟩
  clear hR hst
  generalize sumA (a.ts.take i) = S at *
  generalize a.ts[i] = s at *
  obtain ⟨S1, S2, S3, S4, S5, S6⟩ := S
  obtain ⟨z1, z2, z3, z4, z5, z6⟩ := s
  simp only [Stat.bd, Stat.rng, inC] at hb hr
  have w1 : IntKind.i64.wrap (S1 + z1) = S1 + z1 := by rw [IntKind.wrap_i64]; omega
  have w2 : IntKind.i64.wrap (S2 + z2) = S2 + z2 := by rw [IntKind.wrap_i64]; omega
  have w3 : IntKind.i64.wrap (S3 + z3) = S3 + z3 := by rw [IntKind.wrap_i64]; omega
  have w4 : IntKind.i64.wrap (S4 + z4) = S4 + z4 := by rw [IntKind.wrap_i64]; omega
  have w5 : IntKind.i64.wrap (S5 + z5) = S5 + z5 := by rw [IntKind.wrap_i64]; omega
  have w6 : IntKind.i64.wrap (S6 + z6) = S6 + z6 := by rw [IntKind.wrap_i64]; omega
  rw [statE_cells] at e1
  unfold Stat.cs at g2
  simp only at e1 g2
  clear hb hr
  repeat' (first | simp only [go_sem, Nat.reduceLT, Nat.reduceEqDiff, Nat.reduceAdd, Nat.reduceMul, Nat.reduceSub, Nat.reduceLeDiff, Int.reduceToNat, Int.reduceNeg, Int.reduceLT, Int.reduceLE, Int.reduceEq, reduceCtorEq, Int.natCast_zero, Int.natCast_one, Int.cast_ofNat_Int, Bool.not_not, false_eq_decide, true_eq_decide, hread0, hreadk, read_cons0, read_consk, astore_h0, astore_hk, hget0, hgetk, hset0, hsetk, hlen, hcat, Nat.add_assoc, Nat.add_zero, Nat.zero_add, List.length_append, and_true, true_and, AV.flat, g0, get_app g0, read_get g0, read_app g0, g2, get_app g2, read_get g2, read_app g2, astore_get g2, astore_app g2, get_set g2, get_set_app g2, read_set g2, read_set_app g2, astore_set g2, astore_set_app g2, List.set_set, hget0s, hgetks, hread0s, hreadks, List.length_set, *, -hK, -g1, -hm, -hbd, -kk, -back] | with_reducible refine IfB_dec (fun h => ?_) (fun h => ?_) | with_reducible refine Guard_dec (fun h => ?_) (fun h => ?_) | with_reducible refine Guard_ndec (fun h => ?_) (fun h => ?_) | with_reducible refine Guard_not (fun h => ?_) (fun h => ?_) | with_reducible refine IfB_ndec (fun h => ?_) (fun h => ?_) | with_reducible refine IfB_not (fun h => ?_) (fun h => ?_) | with_reducible refine Guard_split (fun h => ?_) (fun h => ?_) | with_reducible refine IfB_split (fun h => ?_) (fun h => ?_))
  refine back _ ?_ ?_ ⟨[.int .i64 z1, .int .i64 z2, .int .i64 z3, .int .i64 z4, .int .i64 z5, .int .i64 z6], 0, .full⟩
  · (repeat (first | exact hs | refine hA _ _ _ (by decide) ?_))
  · simp only [go_sem, Nat.reduceLT, Nat.reduceEqDiff, Nat.reduceAdd, Nat.reduceMul, Nat.reduceSub, Nat.reduceLeDiff, Int.reduceToNat, Int.reduceNeg, Int.reduceLT, Int.reduceLE, Int.reduceEq, reduceCtorEq]
theorem refUp_spec (n b : Int) (hn : inC n) (hb : 0 ≤ b ∧ b ≤ 140737488355328) (H : Heap) : WC Try.prog 48 [.int .i64 n, .int .i64 b] H fun r H' => r = .int .i64 (mx (n + b)) ∧ H' = H := by
  refine WC_of_K fun K hK => ?_
  unfold inC at hn
  have w : IntKind.i64.wrap (n + b) = n + b := by rw [IntKind.wrap_i64]; omega
  by_cases h : n + b > 1099511627776
  · rw [show mx (n + b) = 1099511627776 by unfold mx; omega] at hK
    refine WC_of_body hT Try.func48 rfl (by simp [Try.f48]) (by simp [Try.f48]) (wx_sound hT _ ?_)
    simp only [Try.f48]
    repeat' (first | simp only [go_sem, Nat.reduceLT, Nat.reduceEqDiff, Nat.reduceAdd, Nat.reduceMul, Nat.reduceSub, Nat.reduceLeDiff, Int.reduceToNat, Int.reduceNeg, Int.reduceLT, Int.reduceLE, Int.reduceEq, reduceCtorEq, Int.natCast_zero, Int.natCast_one, Int.cast_ofNat_Int, Bool.not_not, false_eq_decide, true_eq_decide, hread0, hreadk, read_cons0, read_consk, astore_h0, astore_hk, hget0, hgetk, hset0, hsetk, hlen, hcat, Nat.add_assoc, Nat.add_zero, Nat.zero_add, List.length_append, and_true, true_and, AV.flat, *, -hK, -hn, -hb] | with_reducible refine IfB_dec (fun h => ?_) (fun h => ?_) | with_reducible refine Guard_dec (fun h => ?_) (fun h => ?_) | with_reducible refine Guard_ndec (fun h => ?_) (fun h => ?_) | with_reducible refine Guard_not (fun h => ?_) (fun h => ?_) | with_reducible refine IfB_ndec (fun h => ?_) (fun h => ?_) | with_reducible refine IfB_not (fun h => ?_) (fun h => ?_) | with_reducible refine Guard_split (fun h => ?_) (fun h => ?_) | with_reducible refine IfB_split (fun h => ?_) (fun h => ?_))
    exact hK _ _ ⟨rfl, rfl⟩
  · rw [show mx (n + b) = n + b by unfold mx; omega] at hK
    refine WC_of_body hT Try.func48 rfl (by simp [Try.f48]) (by simp [Try.f48]) (wx_sound hT _ ?_)
    simp only [Try.f48]
    repeat' (first | simp only [go_sem, Nat.reduceLT, Nat.reduceEqDiff, Nat.reduceAdd, Nat.reduceMul, Nat.reduceSub, Nat.reduceLeDiff, Int.reduceToNat, Int.reduceNeg, Int.reduceLT, Int.reduceLE, Int.reduceEq, reduceCtorEq, Int.natCast_zero, Int.natCast_one, Int.cast_ofNat_Int, Bool.not_not, false_eq_decide, true_eq_decide, hread0, hreadk, read_cons0, read_consk, astore_h0, astore_hk, hget0, hgetk, hset0, hsetk, hlen, hcat, Nat.add_assoc, Nat.add_zero, Nat.zero_add, List.length_append, and_true, true_and, AV.flat, *, -hK, -hn, -hb] | with_reducible refine IfB_dec (fun h => ?_) (fun h => ?_) | with_reducible refine Guard_dec (fun h => ?_) (fun h => ?_) | with_reducible refine Guard_ndec (fun h => ?_) (fun h => ?_) | with_reducible refine Guard_not (fun h => ?_) (fun h => ?_) | with_reducible refine IfB_ndec (fun h => ?_) (fun h => ?_) | with_reducible refine IfB_not (fun h => ?_) (fun h => ?_) | with_reducible refine Guard_split (fun h => ?_) (fun h => ?_) | with_reducible refine IfB_split (fun h => ?_) (fun h => ?_))
    exact hK _ _ ⟨rfl, rfl⟩
end Go.Proofs.Ytinejbofnjndnaa
