import Derived.Test.YtinejbofnjndnaaAdmP
import Derived.Test.YtinejbofnjndnaaAdmH
import Derived.Test.YtinejbofnjndnaaAdmL
set_option linter.unusedSimpArgs false
set_option linter.unusedVariables false
set_option maxRecDepth 100000
set_option maxHeartbeats 4000000
namespace Go.Proofs.Ytinejbofnjndnaa
open Go Go.Proofs Go.Proofs.PI
open Classical
theorem refCount_spec (a : Adm) (c : Cmd) (r : Res) (l : List Chg) (hn : a.ts.length ≤ 1000000) (hk : c.keys.length ≤ 1000) (hri : r.its.length ≤ 1000) (hl : l.length ≤ 140737488355328) (ho : ∀ x ∈ l, x.Ok) (H : Heap) :
    WC Try.prog 20 [a.av, c.av, r.av, chgE.lst l] H fun v H' => v = .tup [(countL a c r l).1.av, .int .i64 (countL a c r l).2] ∧ H' = H := by
  refine WC_val fun K hK => ?_
  have c1 := fun J => refMayA_spec a (by omega) J
  have c2 := fun J => refCheck_spec c hk J
  have c3 := fun J => refChanges_spec l hl ho J
  unfold ordE at c2
  unfold countL at hK
  by_cases hm : a.may
  rotate_left
  · rw [if_pos hm] at hK
    rw [decide_eq_false hm] at c1
    unfold Adm.av Cmd.av Res.av at *
    refine WC_of_body hT Try.func20 rfl (by simp [Try.f20]) (by simp [Try.f20]) (wx_sound hT _ ?_)
    simp only [Try.f20]
    repeat' (first | simp only [go_sem, Nat.reduceLT, Nat.reduceEqDiff, Nat.reduceAdd, Nat.reduceMul, Nat.reduceSub, Nat.reduceLeDiff, Int.reduceToNat, Int.reduceNeg, Int.reduceLT, Int.reduceLE, Int.reduceEq, reduceCtorEq, Int.natCast_zero, Int.natCast_one, Int.cast_ofNat_Int, Bool.not_not, false_eq_decide, true_eq_decide, hread0, hreadk, read_cons0, read_consk, astore_h0, astore_hk, hget0, hgetk, hset0, hsetk, hlen, hcat, Nat.add_assoc, Nat.add_zero, Nat.zero_add, List.length_append, and_true, true_and, AV.flat, *, -hK, -c1, -c2, -c3, -hm] | refine WC.call (c1 _) ?_ | with_reducible refine IfB_dec (fun h => ?_) (fun h => ?_) | with_reducible refine Guard_dec (fun h => ?_) (fun h => ?_) | with_reducible refine Guard_ndec (fun h => ?_) (fun h => ?_) | with_reducible refine Guard_not (fun h => ?_) (fun h => ?_) | with_reducible refine IfB_ndec (fun h => ?_) (fun h => ?_) | with_reducible refine IfB_not (fun h => ?_) (fun h => ?_) | with_reducible refine Guard_split (fun h => ?_) (fun h => ?_) | with_reducible refine IfB_split (fun h => ?_) (fun h => ?_))
    exact hK _ _ (Thaw.tup_row ⟨Thaw.agg_row ⟨.nils, .bool _, trivial⟩, .int _ _, trivial⟩) (Keep.app _ _ _)
  rw [if_neg (fun h => h hm)] at hK
  rw [decide_eq_true hm] at c1
  cases hcB : cmdB c with
  | false =>
    rw [if_pos hcB] at hK
    rw [hcB] at c2
    unfold Adm.av Cmd.av Res.av at *
    refine WC_of_body hT Try.func20 rfl (by simp [Try.f20]) (by simp [Try.f20]) (wx_sound hT _ ?_)
    simp only [Try.f20]
    repeat' (first | simp only [go_sem, Nat.reduceLT, Nat.reduceEqDiff, Nat.reduceAdd, Nat.reduceMul, Nat.reduceSub, Nat.reduceLeDiff, Int.reduceToNat, Int.reduceNeg, Int.reduceLT, Int.reduceLE, Int.reduceEq, reduceCtorEq, Int.natCast_zero, Int.natCast_one, Int.cast_ofNat_Int, Bool.not_not, false_eq_decide, true_eq_decide, hread0, hreadk, read_cons0, read_consk, astore_h0, astore_hk, hget0, hgetk, hset0, hsetk, hlen, hcat, Nat.add_assoc, Nat.add_zero, Nat.zero_add, List.length_append, and_true, true_and, AV.flat, *, -hK, -c1, -c2, -c3, -hm, -hcB] | refine WC.call (c1 _) ?_ | refine WC.call (c2 _) ?_ | with_reducible refine IfB_dec (fun h => ?_) (fun h => ?_) | with_reducible refine Guard_dec (fun h => ?_) (fun h => ?_) | with_reducible refine Guard_ndec (fun h => ?_) (fun h => ?_) | with_reducible refine Guard_not (fun h => ?_) (fun h => ?_) | with_reducible refine IfB_ndec (fun h => ?_) (fun h => ?_) | with_reducible refine IfB_not (fun h => ?_) (fun h => ?_) | with_reducible refine Guard_split (fun h => ?_) (fun h => ?_) | with_reducible refine IfB_split (fun h => ?_) (fun h => ?_))
    exact hK _ _ (Thaw.tup_row ⟨Thaw.agg_row ⟨.nils, .bool _, trivial⟩, .int _ _, trivial⟩) (Keep.app _ _ _)
  | true =>
  rw [if_neg (by rw [hcB]; simp)] at hK
  rw [hcB, if_pos rfl] at c2
  by_cases he : (changesL l).2 = 0
  rotate_left
  · rw [if_pos he] at hK
    generalize changesL l = ce at *
    obtain ⟨q, e⟩ := ce
    simp only at he hK c3
    unfold Adm.av Cmd.av Res.av at *
    refine WC_of_body hT Try.func20 rfl (by simp [Try.f20]) (by simp [Try.f20]) (wx_sound hT _ ?_)
    simp only [Try.f20]
    repeat' (first | simp only [go_sem, Nat.reduceLT, Nat.reduceEqDiff, Nat.reduceAdd, Nat.reduceMul, Nat.reduceSub, Nat.reduceLeDiff, Int.reduceToNat, Int.reduceNeg, Int.reduceLT, Int.reduceLE, Int.reduceEq, reduceCtorEq, Int.natCast_zero, Int.natCast_one, Int.cast_ofNat_Int, Bool.not_not, false_eq_decide, true_eq_decide, hread0, hreadk, read_cons0, read_consk, astore_h0, astore_hk, hget0, hgetk, hset0, hsetk, hlen, hcat, Nat.add_assoc, Nat.add_zero, Nat.zero_add, List.length_append, and_true, true_and, AV.flat, *, -hK, -c1, -c2, -c3, -hm, -hcB] | refine WC.call (c1 _) ?_ | refine WC.call (c2 _) ?_ | refine WC.call (c3 _) ?_ | with_reducible refine IfB_dec (fun h => ?_) (fun h => ?_) | with_reducible refine Guard_dec (fun h => ?_) (fun h => ?_) | with_reducible refine Guard_ndec (fun h => ?_) (fun h => ?_) | with_reducible refine Guard_not (fun h => ?_) (fun h => ?_) | with_reducible refine IfB_ndec (fun h => ?_) (fun h => ?_) | with_reducible refine IfB_not (fun h => ?_) (fun h => ?_) | with_reducible refine Guard_split (fun h => ?_) (fun h => ?_) | with_reducible refine IfB_split (fun h => ?_) (fun h => ?_))
    exact hK _ _ (Thaw.tup_row ⟨Thaw.agg_row ⟨.nils, .bool _, trivial⟩, .int _ _, trivial⟩) (Keep.app _ _ _)
  rw [if_neg (fun h => h he)] at hK
  rw [he] at c3
  have hok := (changesL_ok (l := l) (b := (changesL l).1) (Prod.ext rfl he)).2.1
  have hfa : ∀ x ∈ l, (0 ≤ x.ten ∧ x.ten < 4) := fun x hx => (may_facts (ho x hx) (by rw [List.all_eq_true] at hok; exact hok x hx)).2.1
  have hw : ∀ x ∈ l, x.kind = 2 → x.why = 1 ∨ x.why = 2 := fun x hx h2 => by
    have := (may_facts (ho x hx) (by rw [List.all_eq_true] at hok; exact hok x hx)).2.2.2
    unfold Chg.goodP at this
    rw [if_neg (by omega), if_pos h2] at this
    exact this.2
  have cd := fun J => counted_spec a c r l hn hm hk hri hl hfa hw J
  generalize (changesL l).1 = q at *
  clear he hok hcB hfa hw
  generalize moreL a.ts (cntD c r l) = xs at *
  unfold Adm.av Cmd.av Res.av at *
  refine WC_of_body hT Try.func20 rfl (by simp [Try.f20]) (by simp [Try.f20]) (wx_sound hT _ ?_)
  simp only [Try.f20]
  repeat' (first | simp only [go_sem, Nat.reduceLT, Nat.reduceEqDiff, Nat.reduceAdd, Nat.reduceMul, Nat.reduceSub, Nat.reduceLeDiff, Int.reduceToNat, Int.reduceNeg, Int.reduceLT, Int.reduceLE, Int.reduceEq, reduceCtorEq, Int.natCast_zero, Int.natCast_one, Int.cast_ofNat_Int, Bool.not_not, false_eq_decide, true_eq_decide, hread0, hreadk, read_cons0, read_consk, astore_h0, astore_hk, hget0, hgetk, hset0, hsetk, hlen, hcat, Nat.add_assoc, Nat.add_zero, Nat.zero_add, List.length_append, and_true, true_and, AV.flat, *, -hK, -c1, -c2, -c3, -cd, -hm] | refine WC.call (c1 _) ?_ | refine WC.call (c2 _) ?_ | refine WC.call (c3 _) ?_ | refine WC.call (cd _) ?_ | with_reducible refine IfB_dec (fun h => ?_) (fun h => ?_) | with_reducible refine Guard_dec (fun h => ?_) (fun h => ?_) | with_reducible refine Guard_ndec (fun h => ?_) (fun h => ?_) | with_reducible refine Guard_not (fun h => ?_) (fun h => ?_) | with_reducible refine IfB_ndec (fun h => ?_) (fun h => ?_) | with_reducible refine IfB_not (fun h => ?_) (fun h => ?_) | with_reducible refine Guard_split (fun h => ?_) (fun h => ?_) | with_reducible refine IfB_split (fun h => ?_) (fun h => ?_))
  exact hK _ _ (Thaw.tup_row ⟨Thaw.agg_row ⟨.lst _ _, .bool _, trivial⟩, .int _ _, trivial⟩) (Keep.app _ _ _)
def newL (t : Int) : Adm × Int := if t < 1 ∨ t > 4 then (adm0, 2) else (⟨List.replicate t.toNat stat0, false⟩, 0)
theorem new_spec (t : Int) (H : Heap) : WC Try.prog 14 [.int .i64 t] H fun v H' => v = .tup [(newL t).1.av, .int .i64 (newL t).2] ∧ H' = H := by
  refine WC_val fun K hK => ?_
  unfold newL at hK
  by_cases h1 : t < 1
  · rw [if_pos (.inl h1)] at hK
    refine WC_of_body hT Try.func14 rfl (by simp [Try.f14]) (by simp [Try.f14]) (wx_sound hT _ ?_)
    simp only [Try.f14]
    repeat' (first | simp only [go_sem, Nat.reduceLT, Nat.reduceEqDiff, Nat.reduceAdd, Nat.reduceMul, Nat.reduceSub, Nat.reduceLeDiff, Int.reduceToNat, Int.reduceNeg, Int.reduceLT, Int.reduceLE, Int.reduceEq, reduceCtorEq, Int.natCast_zero, Int.natCast_one, Int.cast_ofNat_Int, Bool.not_not, false_eq_decide, true_eq_decide, hread0, hreadk, read_cons0, read_consk, astore_h0, astore_hk, hget0, hgetk, hset0, hsetk, hlen, hcat, Nat.add_assoc, Nat.add_zero, Nat.zero_add, List.length_append, and_true, true_and, AV.flat, *, -hK] | with_reducible refine IfB_dec (fun h => ?_) (fun h => ?_) | with_reducible refine Guard_dec (fun h => ?_) (fun h => ?_) | with_reducible refine Guard_ndec (fun h => ?_) (fun h => ?_) | with_reducible refine Guard_not (fun h => ?_) (fun h => ?_) | with_reducible refine IfB_ndec (fun h => ?_) (fun h => ?_) | with_reducible refine IfB_not (fun h => ?_) (fun h => ?_) | with_reducible refine Guard_split (fun h => ?_) (fun h => ?_) | with_reducible refine IfB_split (fun h => ?_) (fun h => ?_))
    exact hK _ _ (Thaw.tup_row ⟨Thaw.agg_row ⟨.nils, .bool _, trivial⟩, .int _ _, trivial⟩) (Keep.app _ _ _)
  by_cases h2 : t > 4
  · rw [if_pos (.inr h2)] at hK
    refine WC_of_body hT Try.func14 rfl (by simp [Try.f14]) (by simp [Try.f14]) (wx_sound hT _ ?_)
    simp only [Try.f14]
    repeat' (first | simp only [go_sem, Nat.reduceLT, Nat.reduceEqDiff, Nat.reduceAdd, Nat.reduceMul, Nat.reduceSub, Nat.reduceLeDiff, Int.reduceToNat, Int.reduceNeg, Int.reduceLT, Int.reduceLE, Int.reduceEq, reduceCtorEq, Int.natCast_zero, Int.natCast_one, Int.cast_ofNat_Int, Bool.not_not, false_eq_decide, true_eq_decide, hread0, hreadk, read_cons0, read_consk, astore_h0, astore_hk, hget0, hgetk, hset0, hsetk, hlen, hcat, Nat.add_assoc, Nat.add_zero, Nat.zero_add, List.length_append, and_true, true_and, AV.flat, *, -hK] | with_reducible refine IfB_dec (fun h => ?_) (fun h => ?_) | with_reducible refine Guard_dec (fun h => ?_) (fun h => ?_) | with_reducible refine Guard_ndec (fun h => ?_) (fun h => ?_) | with_reducible refine Guard_not (fun h => ?_) (fun h => ?_) | with_reducible refine IfB_ndec (fun h => ?_) (fun h => ?_) | with_reducible refine IfB_not (fun h => ?_) (fun h => ?_) | with_reducible refine Guard_split (fun h => ?_) (fun h => ?_) | with_reducible refine IfB_split (fun h => ?_) (fun h => ?_))
    exact hK _ _ (Thaw.tup_row ⟨Thaw.agg_row ⟨.nils, .bool _, trivial⟩, .int _ _, trivial⟩) (Keep.app _ _ _)
  rw [if_neg (by omega)] at hK
  have h3 : t = 1 ∨ t = 2 ∨ t = 3 ∨ t = 4 := by omega
  rcases h3 with rfl | rfl | rfl | rfl
  all_goals
    clear h1 h2
    refine WC_of_body hT Try.func14 rfl (by simp [Try.f14]) (by simp [Try.f14]) (wx_sound hT _ ?_)
    simp only [Try.f14]
    repeat' (first | simp only [go_sem, Nat.reduceLT, Nat.reduceEqDiff, Nat.reduceAdd, Nat.reduceMul, Nat.reduceSub, Nat.reduceLeDiff, Int.reduceToNat, Int.reduceNeg, Int.reduceLT, Int.reduceLE, Int.reduceEq, reduceCtorEq, Int.natCast_zero, Int.natCast_one, Int.cast_ofNat_Int, Bool.not_not, false_eq_decide, true_eq_decide, hread0, hreadk, read_cons0, read_consk, astore_h0, astore_hk, hget0, hgetk, hset0, hsetk, hlen, hcat, Nat.add_assoc, Nat.add_zero, Nat.zero_add, List.length_append, and_true, true_and, AV.flat, *, -hK] | with_reducible refine IfB_dec (fun h => ?_) (fun h => ?_) | with_reducible refine Guard_dec (fun h => ?_) (fun h => ?_) | with_reducible refine Guard_ndec (fun h => ?_) (fun h => ?_) | with_reducible refine Guard_not (fun h => ?_) (fun h => ?_) | with_reducible refine IfB_ndec (fun h => ?_) (fun h => ?_) | with_reducible refine IfB_not (fun h => ?_) (fun h => ?_) | with_reducible refine Guard_split (fun h => ?_) (fun h => ?_) | with_reducible refine IfB_split (fun h => ?_) (fun h => ?_))
    rw [if_pos (by decide)]
    repeat' (first | simp only [go_sem, Nat.reduceLT, Nat.reduceEqDiff, Nat.reduceAdd, Nat.reduceMul, Nat.reduceSub, Nat.reduceLeDiff, Int.reduceToNat, Int.reduceNeg, Int.reduceLT, Int.reduceLE, Int.reduceEq, reduceCtorEq, Int.natCast_zero, Int.natCast_one, Int.cast_ofNat_Int, Bool.not_not, false_eq_decide, true_eq_decide, hread0, hreadk, read_cons0, read_consk, astore_h0, astore_hk, hget0, hgetk, hset0, hsetk, hlen, hcat, Nat.add_assoc, Nat.add_zero, Nat.zero_add, List.length_append, and_true, true_and, AV.flat, *, -hK] | with_reducible refine IfB_dec (fun h => ?_) (fun h => ?_) | with_reducible refine Guard_dec (fun h => ?_) (fun h => ?_) | with_reducible refine Guard_ndec (fun h => ?_) (fun h => ?_) | with_reducible refine Guard_not (fun h => ?_) (fun h => ?_) | with_reducible refine IfB_ndec (fun h => ?_) (fun h => ?_) | with_reducible refine IfB_not (fun h => ?_) (fun h => ?_) | with_reducible refine Guard_split (fun h => ?_) (fun h => ?_) | with_reducible refine IfB_split (fun h => ?_) (fun h => ?_))
    exact hK _ _ (Thaw.tup_row ⟨Thaw.agg_row ⟨(show OwnE statE H.length _ _ (List.replicate _ stat0) from .inr ⟨H.length + 1, _, .full, [], rfl, by omega, by rw [hgetk]; rfl, rfl, rfl⟩).thaw (by decide), .bool _, trivial⟩, .int _ _, trivial⟩) (Keep.app _ _ _)
theorem refNew_spec (t : Int) (H : Heap) : WC Try.prog 19 [.int .i64 t] H fun v H' => v = .tup [(newL t).1.av, .int .i64 (newL t).2] ∧ H' = H := by
  refine WC_val fun K hK => ?_
  unfold newL at hK
  by_cases h1 : t < 1
  · rw [if_pos (.inl h1)] at hK
    refine WC_of_body hT Try.func19 rfl (by simp [Try.f19]) (by simp [Try.f19]) (wx_sound hT _ ?_)
    simp only [Try.f19]
    repeat' (first | simp only [go_sem, Nat.reduceLT, Nat.reduceEqDiff, Nat.reduceAdd, Nat.reduceMul, Nat.reduceSub, Nat.reduceLeDiff, Int.reduceToNat, Int.reduceNeg, Int.reduceLT, Int.reduceLE, Int.reduceEq, reduceCtorEq, Int.natCast_zero, Int.natCast_one, Int.cast_ofNat_Int, Bool.not_not, false_eq_decide, true_eq_decide, hread0, hreadk, read_cons0, read_consk, astore_h0, astore_hk, hget0, hgetk, hset0, hsetk, hlen, hcat, Nat.add_assoc, Nat.add_zero, Nat.zero_add, List.length_append, and_true, true_and, AV.flat, *, -hK] | with_reducible refine IfB_dec (fun h => ?_) (fun h => ?_) | with_reducible refine Guard_dec (fun h => ?_) (fun h => ?_) | with_reducible refine Guard_ndec (fun h => ?_) (fun h => ?_) | with_reducible refine Guard_not (fun h => ?_) (fun h => ?_) | with_reducible refine IfB_ndec (fun h => ?_) (fun h => ?_) | with_reducible refine IfB_not (fun h => ?_) (fun h => ?_) | with_reducible refine Guard_split (fun h => ?_) (fun h => ?_) | with_reducible refine IfB_split (fun h => ?_) (fun h => ?_))
    exact hK _ _ (Thaw.tup_row ⟨Thaw.agg_row ⟨.nils, .bool _, trivial⟩, .int _ _, trivial⟩) (Keep.app _ _ _)
  by_cases h2 : t > 4
  · rw [if_pos (.inr h2)] at hK
    refine WC_of_body hT Try.func19 rfl (by simp [Try.f19]) (by simp [Try.f19]) (wx_sound hT _ ?_)
    simp only [Try.f19]
    repeat' (first | simp only [go_sem, Nat.reduceLT, Nat.reduceEqDiff, Nat.reduceAdd, Nat.reduceMul, Nat.reduceSub, Nat.reduceLeDiff, Int.reduceToNat, Int.reduceNeg, Int.reduceLT, Int.reduceLE, Int.reduceEq, reduceCtorEq, Int.natCast_zero, Int.natCast_one, Int.cast_ofNat_Int, Bool.not_not, false_eq_decide, true_eq_decide, hread0, hreadk, read_cons0, read_consk, astore_h0, astore_hk, hget0, hgetk, hset0, hsetk, hlen, hcat, Nat.add_assoc, Nat.add_zero, Nat.zero_add, List.length_append, and_true, true_and, AV.flat, *, -hK] | with_reducible refine IfB_dec (fun h => ?_) (fun h => ?_) | with_reducible refine Guard_dec (fun h => ?_) (fun h => ?_) | with_reducible refine Guard_ndec (fun h => ?_) (fun h => ?_) | with_reducible refine Guard_not (fun h => ?_) (fun h => ?_) | with_reducible refine IfB_ndec (fun h => ?_) (fun h => ?_) | with_reducible refine IfB_not (fun h => ?_) (fun h => ?_) | with_reducible refine Guard_split (fun h => ?_) (fun h => ?_) | with_reducible refine IfB_split (fun h => ?_) (fun h => ?_))
    exact hK _ _ (Thaw.tup_row ⟨Thaw.agg_row ⟨.nils, .bool _, trivial⟩, .int _ _, trivial⟩) (Keep.app _ _ _)
  rw [if_neg (by omega)] at hK
  have h3 : t = 1 ∨ t = 2 ∨ t = 3 ∨ t = 4 := by omega
  rcases h3 with rfl | rfl | rfl | rfl
  all_goals
    clear h1 h2
    refine WC_of_body hT Try.func19 rfl (by simp [Try.f19]) (by simp [Try.f19]) (wx_sound hT _ ?_)
    simp only [Try.f19]
    repeat' (first | simp only [go_sem, Nat.reduceLT, Nat.reduceEqDiff, Nat.reduceAdd, Nat.reduceMul, Nat.reduceSub, Nat.reduceLeDiff, Int.reduceToNat, Int.reduceNeg, Int.reduceLT, Int.reduceLE, Int.reduceEq, reduceCtorEq, Int.natCast_zero, Int.natCast_one, Int.cast_ofNat_Int, Bool.not_not, false_eq_decide, true_eq_decide, hread0, hreadk, read_cons0, read_consk, astore_h0, astore_hk, hget0, hgetk, hset0, hsetk, hlen, hcat, Nat.add_assoc, Nat.add_zero, Nat.zero_add, List.length_append, and_true, true_and, AV.flat, *, -hK] | with_reducible refine IfB_dec (fun h => ?_) (fun h => ?_) | with_reducible refine Guard_dec (fun h => ?_) (fun h => ?_) | with_reducible refine Guard_ndec (fun h => ?_) (fun h => ?_) | with_reducible refine Guard_not (fun h => ?_) (fun h => ?_) | with_reducible refine IfB_ndec (fun h => ?_) (fun h => ?_) | with_reducible refine IfB_not (fun h => ?_) (fun h => ?_) | with_reducible refine Guard_split (fun h => ?_) (fun h => ?_) | with_reducible refine IfB_split (fun h => ?_) (fun h => ?_))
    rw [if_pos (by decide)]
    repeat' (first | simp only [go_sem, Nat.reduceLT, Nat.reduceEqDiff, Nat.reduceAdd, Nat.reduceMul, Nat.reduceSub, Nat.reduceLeDiff, Int.reduceToNat, Int.reduceNeg, Int.reduceLT, Int.reduceLE, Int.reduceEq, reduceCtorEq, Int.natCast_zero, Int.natCast_one, Int.cast_ofNat_Int, Bool.not_not, false_eq_decide, true_eq_decide, hread0, hreadk, read_cons0, read_consk, astore_h0, astore_hk, hget0, hgetk, hset0, hsetk, hlen, hcat, Nat.add_assoc, Nat.add_zero, Nat.zero_add, List.length_append, and_true, true_and, AV.flat, *, -hK] | with_reducible refine IfB_dec (fun h => ?_) (fun h => ?_) | with_reducible refine Guard_dec (fun h => ?_) (fun h => ?_) | with_reducible refine Guard_ndec (fun h => ?_) (fun h => ?_) | with_reducible refine Guard_not (fun h => ?_) (fun h => ?_) | with_reducible refine IfB_ndec (fun h => ?_) (fun h => ?_) | with_reducible refine IfB_not (fun h => ?_) (fun h => ?_) | with_reducible refine Guard_split (fun h => ?_) (fun h => ?_) | with_reducible refine IfB_split (fun h => ?_) (fun h => ?_))
    exact hK _ _ (Thaw.tup_row ⟨Thaw.agg_row ⟨(show OwnE statE H.length _ _ (List.replicate _ stat0) from .inr ⟨H.length + 1, _, .full, [], rfl, by omega, by rw [hgetk]; rfl, rfl, rfl⟩).thaw (by decide), .bool _, trivial⟩, .int _ _, trivial⟩) (Keep.app _ _ _)
end Go.Proofs.Ytinejbofnjndnaa
