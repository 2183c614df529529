import Derived.Test.YtakmlfbejbelaaaCodeM5
import Derived.Test.YtakmlfbejbelaaaCodeZn
import Derived.Test.YtakmlfbejbelaaaPiV
set_option linter.unusedSimpArgs false
set_option linter.unusedVariables false
set_option maxRecDepth 100000
set_option maxHeartbeats 4000000
namespace Go.Proofs.Ytakmlfbejbelaaa
open Go Go.Proofs Go.Proofs.PI
theorem Nofz.tup2 {a b : AV} (ha : Nofz a) (hb : Nofz b) : Nofz (.tup [a, b]) := .tup _ (Nofz.row fun x hx => by
  simp only [List.mem_cons, List.not_mem_nil, or_false] at hx; rcases hx with rfl | rfl <;> assumption)
theorem ob_loose {m : Nat} {H : Heap} {v : AV} {l : List UInt8} (h : Ob m H v l) : v.loose = true := by
  rcases h with ⟨rfl, _⟩ | ⟨b, n, st, rest, rfl, _⟩ <;> rfl
theorem byc_loose (l : List UInt8) : ∀ a ∈ byc l, a.loose = true := fun a ha => by
  obtain ⟨x, _, rfl⟩ := List.mem_map.1 ha; rfl
theorem changes_lent (l : List Chg) (hl : l.length ≤ 140737488355328) (ho : ∀ c ∈ l, c.Ok) {m : Nat} {H : Heap} {v : AV} (h : OwnE chgE m H v l) : WC Try.prog 30 [v] H fun r H' => r = .tup [Enc.u8.lst (changesL l).1, .int .i64 (changesL l).2] ∧ H' = H := by
  refine WC_froze (Q := fun r => r = _) ?_
  refine (WC_lend (Q := fun r I => ∃ w, r = .tup [w, .int .i64 (changesL l).2] ∧ Ob H.shut.length I w (changesL l).1 ∧ Keep none H.shut I) (args := [v]) (args' := [chgE.lst l]) ⟨(h.thaw (by decide)).mono (Nat.zero_le _), trivial⟩ ((changes_own l hl ho _).mono ?_)).mono ?_
  · rintro r I ⟨⟨w, rfl, o⟩, k⟩
    exact ⟨Nofz.tup2 (.cell _ (ob_loose o)) (.cell _ rfl), w, rfl, o, k⟩
  · rintro r H' ⟨I, ⟨w, rfl, o, k⟩, rfl⟩
    have o' : Ob H.length (H.back I) w _ := Own.back o (byc_loose _)
    exact ⟨_, Thaw.tup_row (l' := [_, _]) ⟨Thaw.ob o', .int _ _, trivial⟩, back_keep _ _, rfl⟩
theorem same_lent (l d : List Chg) (hl : l.length ≤ 140737488355328) {m : Nat} {H : Heap} {v : AV} (h : OwnE chgE m H v l) : WC Try.prog 34 [v, chgE.lst d] H fun r H' => r = .bool (decide (l = d)) ∧ H' = H :=
  WC_lend_val (args := [v, chgE.lst d]) (args' := [chgE.lst l, chgE.lst d]) ⟨(h.thaw (by decide)).mono (Nat.zero_le _), .lst _ _, trivial⟩ (.cell _ rfl) (fun J => sameChanges_spec l d hl J)
theorem codeChanges_walk (avs : List AV) (h : InpPAll T 9 [56, 30] avs) : WC Try.prog 6 avs [] fun v _ => v = .bool true := by
  obtain ⟨a0, _, rfl, h0, h⟩ := h.cons
  obtain ⟨a1, _, rfl, h1, h⟩ := h.cons
  obtain rfl := h.nil
  obtain ⟨l, rfl, ho, hn⟩ := inp_changes h0
  obtain ⟨b, rfl, hb⟩ := inp_bytes h1
  clear h0 h1 h
  generalize ([] : Heap) = H
  have se := fun (H : Heap) (l : List UInt8) => str_enc (T := T) (H := H) (l := l) se30 tk9 tk5
  refine WC_of_K fun K hK => ?_
  refine WC_of_body hT Try.func6 rfl (by simp [Try.f6]) (by simp [Try.f6]) (wx_sound hT _ ?_)
  simp only [Try.f6]
  repeat' (first | simp only [go_sem, Nat.reduceLT, Nat.reduceEqDiff, Nat.reduceAdd, Nat.reduceMul, Nat.reduceSub, Nat.reduceLeDiff, Int.reduceToNat, Int.reduceNeg, Int.reduceLT, Int.reduceLE, Int.reduceEq, reduceCtorEq, Int.natCast_zero, Int.natCast_one, Int.cast_ofNat_Int, Bool.not_not, false_eq_decide, true_eq_decide, hread0, hreadk, read_cons0, read_consk, astore_h0, astore_hk, hget0, hgetk, hset0, hsetk, hlen, hcat, Nat.add_assoc, Nat.add_zero, Nat.zero_add, List.length_append, and_true, true_and, AV.flat, *, -hK] | with_reducible refine IfB_dec (fun h => ?_) (fun h => ?_) | with_reducible refine Guard_dec (fun h => ?_) (fun h => ?_) | with_reducible refine Guard_ndec (fun h => ?_) (fun h => ?_) | with_reducible refine Guard_not (fun h => ?_) (fun h => ?_) | with_reducible refine IfB_ndec (fun h => ?_) (fun h => ?_) | with_reducible refine IfB_not (fun h => ?_) (fun h => ?_) | with_reducible refine Guard_split (fun h => ?_) (fun h => ?_) | with_reducible refine IfB_split (fun h => ?_) (fun h => ?_))
  refine (heavyC_spec l hn _).mono ?_
  rintro r H' ⟨⟨bh, rfl, h5⟩, rfl⟩
  cases bh with
  | true =>
    repeat' (first | simp only [go_sem, Nat.reduceLT, Nat.reduceEqDiff, Nat.reduceAdd, Nat.reduceMul, Nat.reduceSub, Nat.reduceLeDiff, Int.reduceToNat, Int.reduceNeg, Int.reduceLT, Int.reduceLE, Int.reduceEq, reduceCtorEq, Int.natCast_zero, Int.natCast_one, Int.cast_ofNat_Int, Bool.not_not, false_eq_decide, true_eq_decide, hread0, hreadk, read_cons0, read_consk, astore_h0, astore_hk, hget0, hgetk, hset0, hsetk, hlen, hcat, Nat.add_assoc, Nat.add_zero, Nat.zero_add, List.length_append, and_true, true_and, AV.flat, *, -hK] | with_reducible refine IfB_dec (fun h => ?_) (fun h => ?_) | with_reducible refine Guard_dec (fun h => ?_) (fun h => ?_) | with_reducible refine Guard_ndec (fun h => ?_) (fun h => ?_) | with_reducible refine Guard_not (fun h => ?_) (fun h => ?_) | with_reducible refine IfB_ndec (fun h => ?_) (fun h => ?_) | with_reducible refine IfB_not (fun h => ?_) (fun h => ?_) | with_reducible refine Guard_split (fun h => ?_) (fun h => ?_) | with_reducible refine IfB_split (fun h => ?_) (fun h => ?_))
    exact hK _ _ rfl
  | false =>
  replace h5 := h5 rfl
  repeat' (first | simp only [go_sem, Nat.reduceLT, Nat.reduceEqDiff, Nat.reduceAdd, Nat.reduceMul, Nat.reduceSub, Nat.reduceLeDiff, Int.reduceToNat, Int.reduceNeg, Int.reduceLT, Int.reduceLE, Int.reduceEq, reduceCtorEq, Int.natCast_zero, Int.natCast_one, Int.cast_ofNat_Int, Bool.not_not, false_eq_decide, true_eq_decide, hread0, hreadk, read_cons0, read_consk, astore_h0, astore_hk, hget0, hgetk, hset0, hsetk, hlen, hcat, Nat.add_assoc, Nat.add_zero, Nat.zero_add, List.length_append, and_true, true_and, AV.flat, *, -hK] | with_reducible refine IfB_dec (fun h => ?_) (fun h => ?_) | with_reducible refine Guard_dec (fun h => ?_) (fun h => ?_) | with_reducible refine Guard_ndec (fun h => ?_) (fun h => ?_) | with_reducible refine Guard_not (fun h => ?_) (fun h => ?_) | with_reducible refine IfB_ndec (fun h => ?_) (fun h => ?_) | with_reducible refine IfB_not (fun h => ?_) (fun h => ?_) | with_reducible refine Guard_split (fun h => ?_) (fun h => ?_) | with_reducible refine IfB_split (fun h => ?_) (fun h => ?_))
  all_goals try (exact hK _ _ rfl)
  refine append_enc (E := chgE) (xs := []) (ys := l) (OwnE.nils _ H'.length _) se56 az71 td71 (src_enc tk56) (by decide) (by show (0 + _) * _ ≤ _; simp only [chgE]; omega) (by simp) ?_
  intro v H1 o1 k1 hn1
  rw [List.nil_append] at o1
  have hv := o1.one
  repeat' (first | simp only [go_sem, Nat.reduceLT, Nat.reduceEqDiff, Nat.reduceAdd, Nat.reduceMul, Nat.reduceSub, Nat.reduceLeDiff, Int.reduceToNat, Int.reduceNeg, Int.reduceLT, Int.reduceLE, Int.reduceEq, reduceCtorEq, Int.natCast_zero, Int.natCast_one, Int.cast_ofNat_Int, Bool.not_not, false_eq_decide, true_eq_decide, hread0, hreadk, read_cons0, read_consk, astore_h0, astore_hk, hget0, hgetk, hset0, hsetk, hlen, hcat, Nat.add_assoc, Nat.add_zero, Nat.zero_add, List.length_append, and_true, true_and, AV.flat, hv, one_solid hv, one_cells hv, *, -hK] | with_reducible refine IfB_dec (fun h => ?_) (fun h => ?_) | with_reducible refine Guard_dec (fun h => ?_) (fun h => ?_) | with_reducible refine Guard_ndec (fun h => ?_) (fun h => ?_) | with_reducible refine Guard_not (fun h => ?_) (fun h => ?_) | with_reducible refine IfB_ndec (fun h => ?_) (fun h => ?_) | with_reducible refine IfB_not (fun h => ?_) (fun h => ?_) | with_reducible refine Guard_split (fun h => ?_) (fun h => ?_) | with_reducible refine IfB_split (fun h => ?_) (fun h => ?_))
  refine append_enc (E := Enc.u8) (xs := []) (ys := b) (OwnE.nils _ H1.length _) se30 az5 td5 (src_enc tk30) (by decide) (by show (0 + _) * 2 ≤ _; omega) (by simp) ?_
  intro v2 H2 o2 k2 hn2
  rw [List.nil_append] at o2
  have hv2 := o2.one
  have o3 := o1.keep k2 (fun b hb => by cases hb)
  have cl := changes_lent l hn ho o3
  have rc := fun J => refChanges_spec l hn ho J
  generalize changesL l = ce at *
  obtain ⟨q, e⟩ := ce
  simp only at cl rc
  have cl2 := fun (J : Heap) (hJ : J = H2) => hJ ▸ cl
  repeat' (first | simp only [go_sem, Nat.reduceLT, Nat.reduceEqDiff, Nat.reduceAdd, Nat.reduceMul, Nat.reduceSub, Nat.reduceLeDiff, Int.reduceToNat, Int.reduceNeg, Int.reduceLT, Int.reduceLE, Int.reduceEq, reduceCtorEq, Int.natCast_zero, Int.natCast_one, Int.cast_ofNat_Int, Bool.not_not, false_eq_decide, true_eq_decide, hread0, hreadk, read_cons0, read_consk, astore_h0, astore_hk, hget0, hgetk, hset0, hsetk, hlen, hcat, Nat.add_assoc, Nat.add_zero, Nat.zero_add, List.length_append, and_true, true_and, AV.flat, hv, one_solid hv, one_cells hv, hv2, one_solid hv2, one_cells hv2, *, -hK, -cl, -rc, -o1, -o2, -o3, -k1, -k2] | refine WC.call (cl) ?_ | refine WC.call (rc _) ?_ | with_reducible refine IfB_dec (fun h => ?_) (fun h => ?_) | with_reducible refine Guard_dec (fun h => ?_) (fun h => ?_) | with_reducible refine Guard_ndec (fun h => ?_) (fun h => ?_) | with_reducible refine Guard_not (fun h => ?_) (fun h => ?_) | with_reducible refine IfB_ndec (fun h => ?_) (fun h => ?_) | with_reducible refine IfB_not (fun h => ?_) (fun h => ?_) | with_reducible refine Guard_split (fun h => ?_) (fun h => ?_) | with_reducible refine IfB_split (fun h => ?_) (fun h => ?_))
  refine WC_freezeE [Enc.u8.lst b] o2 (by decide) ⟨.here, trivial⟩ ?_
  intro G fz
  refine WC.call (ofChangesS_spec b hb G) ?_
  have rs := fun J => refOfChanges_spec b hb J
  have hne : ∀ b, v.blk = some b → v2.blk ≠ some b := fun b h1 h2 => by
    have a1 := o1.lt h1
    have a2 := o2.ge h2
    omega
  have o4 := o3.keep fz.keep (fun b h1 h2 => hne b h2 h1)
  have sl := same_lent l l hn o4
  rw [decide_eq_true rfl] at sl
  have hvs : Bs G v2 b := by
    have := fz.vs (o2.vs (by decide))
    rw [Enc.u8_row] at this; exact this
  have hst := hvs.str se30 tk9 tk5
  have sm := fun J => sameChanges_spec (ofChangesL b).1 (ofChangesL b).1 (by have := (ofChg_len b).1; omega) J
  rw [decide_eq_true rfl] at sm
  generalize (ofChangesL b) = oc at *
  obtain ⟨x, g⟩ := oc
  simp only at sm rs ⊢
  clear cl rc cl2 o1 o2 o3 o4 k1 k2 hn1 hn2 fz hvs hne
  repeat' (first | simp only [go_sem, Nat.reduceLT, Nat.reduceEqDiff, Nat.reduceAdd, Nat.reduceMul, Nat.reduceSub, Nat.reduceLeDiff, Int.reduceToNat, Int.reduceNeg, Int.reduceLT, Int.reduceLE, Int.reduceEq, reduceCtorEq, Int.natCast_zero, Int.natCast_one, Int.cast_ofNat_Int, Bool.not_not, false_eq_decide, true_eq_decide, hread0, hreadk, read_cons0, read_consk, astore_h0, astore_hk, hget0, hgetk, hset0, hsetk, hlen, hcat, Nat.add_assoc, Nat.add_zero, Nat.zero_add, List.length_append, and_true, true_and, AV.flat, hv, one_solid hv, one_cells hv, hv2, one_solid hv2, one_cells hv2, *, -hK, -rs, -sm, -sl] | refine WC.call (rs _) ?_ | refine WC.call (sm _) ?_ | refine WC.call (sl) ?_ | with_reducible refine IfB_dec (fun h => ?_) (fun h => ?_) | with_reducible refine Guard_dec (fun h => ?_) (fun h => ?_) | with_reducible refine Guard_ndec (fun h => ?_) (fun h => ?_) | with_reducible refine Guard_not (fun h => ?_) (fun h => ?_) | with_reducible refine IfB_ndec (fun h => ?_) (fun h => ?_) | with_reducible refine IfB_not (fun h => ?_) (fun h => ?_) | with_reducible refine Guard_split (fun h => ?_) (fun h => ?_) | with_reducible refine IfB_split (fun h => ?_) (fun h => ?_))
  all_goals first | exact hK _ _ rfl | trace_state
end Go.Proofs.Ytakmlfbejbelaaa
