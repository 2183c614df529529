import Derived.Test.YtccfhighlpfdmaaTrkU2
set_option linter.unusedSimpArgs false
set_option linter.unusedVariables false
set_option maxRecDepth 100000
set_option maxHeartbeats 4000000
namespace Go.Proofs.Ytccfhighlpfdmaa
open Go Go.Proofs Go.Proofs.PI
/-! ### what is pushed while names go -/
structure PuS (L q : Nat) (J : Heap) (pv : AV) (P : List Pu) : Prop where
  box : J[q]? = some (⟨[pv], 0, .full⟩ : Blk)
  own : OwnE puE L J pv P
  ne : pv.blk ≠ some q
  ge : L ≤ q
structure PuI (L q : Nat) (X : Option Nat) (H : Heap) (pv0 : AV) (J : Heap) (pv : AV) (P : List Pu) : Prop where
  st : PuS L q J pv P
  len : H.length ≤ J.length
  fr : ∀ b, b < H.length → b ≠ q → pv0.blk ≠ some b → X ≠ some b → J[b]? = H[b]?
  blk : ∀ b, pv.blk = some b → pv0.blk = some b ∨ H.length ≤ b
theorem PuI.refl {L q : Nat} {X : Option Nat} {H : Heap} {pv : AV} {P : List Pu} (h : PuS L q H pv P) : PuI L q X H pv H pv P := ⟨h, Nat.le_refl _, fun _ _ _ _ _ => rfl, fun _ h => .inl h⟩
theorem PuI.trans {L q : Nat} {X : Option Nat} {H J G : Heap} {a b c : AV} {P Q : List Pu} (h : PuI L q X H a J b P) (k : PuI L q X J b G c Q) : PuI L q X H a G c Q :=
  ⟨k.st, Nat.le_trans h.len k.len, fun x hx hq ha hX => by
    have hb : b.blk ≠ some x := fun e => by rcases h.blk x e with h1 | h1; exact ha h1; omega
    rw [k.fr x (Nat.lt_of_lt_of_le hx h.len) hq hb hX]; exact h.fr x hx hq ha hX, fun x hx => by
    rcases k.blk x hx with h1 | h1
    · exact h.blk x h1
    · exact .inr (Nat.le_trans h.len h1)⟩
theorem PuI.weak {L q : Nat} {X : Option Nat} {H J : Heap} {a b : AV} {P : List Pu} (h : PuI L q none H a J b P) : PuI L q X H a J b P :=
  ⟨h.st, h.len, fun x h1 h2 h3 _ => h.fr x h1 h2 h3 (by simp), h.blk⟩
/-- Something else is written. -/
theorem PuI.keep {L q : Nat} {X : Option Nat} {H J : Heap} {pv : AV} {P : List Pu} (h : PuS L q H pv P) (k : Keep X H J) (hX : ∀ b, X = some b → b < L) : PuI L q X H pv J pv P :=
  ⟨⟨k.get h.box (fun e => by have := hX _ e; have := h.ge; omega), h.own.keep k (fun b hb e => by have := hX _ hb; have := h.own.ge e; omega), h.ne, h.ge⟩, k.len, fun b hb _ _ hx => k.at_ b hb hx, fun b hb => .inl hb⟩
theorem pushT_step {c : Chg} {i : Nat} {l : List Nm} {k : Nat} (h : k < l.length) : pushT c i (l.take (k + 1)) = pushT c i (l.take k) ++ if tkHit c l[k] = true then [pushN i l[k]] else [] := by
  unfold pushT
  rw [List.take_succ_eq_append_getElem h, List.filter_append, List.map_append]
  congr 1
  cases hh : tkHit c l[k] <;> simp [hh]
theorem pushT_len (c : Chg) (i : Nat) (l : List Nm) : (pushT c i l).length ≤ l.length := by
  unfold pushT; rw [List.length_map]; exact List.length_filter_le _ _
theorem chgF_spec (L q bc bi : Nat) (c : Chg) (i : Nat) (x : Nm) (J : Heap) (pv : AV) (P : List Pu) (hs : PuS L q J pv P) (hc : J[bc]? = some ⟨c.cs, 0, .full⟩) (hi : J[bi]? = some ⟨[.int .i64 i], 0, .full⟩)
    (hLJ : L ≤ J.length) (hP : P.length ≤ 1000000) : WC Try.prog 43 [x.av, .ptr bc 0, .ptr q 0, .ptr bi 0] J fun r H' => ∃ pv', r = .bool (tkHit c x) ∧ PuI L q none J pv H' pv' (P ++ if tkHit c x = true then [pushN i x] else []) := by
  refine WC_of_K fun K hK => ?_
  have tc := fun J => touches_spec c x J
  obtain ⟨kind, ten, ikey, ival, ifl, idue, iuniq, key, why, to, prim⟩ := c
  generalize tkHit _ x = hit at *
  obtain ⟨t, k⟩ := x
  unfold Chg.av Nm.av at *
  unfold Chg.cs at hc
  simp only at hc tc ⊢
  have hcl := (List.getElem?_eq_some_iff.1 hc).1
  have hil := (List.getElem?_eq_some_iff.1 hi).1
  have hql := (List.getElem?_eq_some_iff.1 hs.box).1
  have hcJ := get_app hc [(⟨[.int .i64 t, .str k], 0, .full⟩ : Blk)]
  have hiJ := get_app hi [(⟨[.int .i64 t, .str k], 0, .full⟩ : Blk)]
  have hqJ := get_app hs.box [(⟨[.int .i64 t, .str k], 0, .full⟩ : Blk)]
  have hpo := hs.own.one
  have hqJ2 := get_app hs.box [(⟨[.int .i64 t, .str k], 0, .full⟩ : Blk), (⟨[.int .i64 i, .int .i64 t, .str k], 3, .full⟩ : Blk)]
  cases hit with
  | false =>
    rw [if_neg (by decide), List.append_nil] at hK
    refine WC_of_body hT Try.func43 rfl (by simp [Try.f43]) (by simp [Try.f43]) (wx_sound hT _ ?_)
    simp only [Try.f43]
    repeat' (first | simp only [go_sem, Nat.reduceLT, Nat.reduceEqDiff, Nat.reduceAdd, Nat.reduceMul, Nat.reduceSub, Nat.reduceLeDiff, Int.reduceToNat, Int.reduceNeg, Int.reduceLT, Int.reduceLE, Int.reduceEq, reduceCtorEq, Int.natCast_zero, Int.natCast_one, Int.cast_ofNat_Int, Bool.not_not, false_eq_decide, true_eq_decide, hread0, hreadk, read_cons0, read_consk, astore_h0, astore_hk, hget0, hgetk, hset0, hsetk, hlen, hcat, Nat.add_assoc, Nat.add_zero, Nat.zero_add, List.length_append, and_true, true_and, AV.flat, hcJ, get_app hcJ, read_get hcJ, read_app hcJ, *, -hK, -hs, -hc, -hi, -tc, -hiJ, -hqJ, -hqJ2] | refine WC.call (tc _) ?_ | with_reducible refine IfB_dec (fun h => ?_) (fun h => ?_) | with_reducible refine Guard_dec (fun h => ?_) (fun h => ?_) | with_reducible refine Guard_ndec (fun h => ?_) (fun h => ?_) | with_reducible refine Guard_not (fun h => ?_) (fun h => ?_) | with_reducible refine IfB_ndec (fun h => ?_) (fun h => ?_) | with_reducible refine IfB_not (fun h => ?_) (fun h => ?_) | with_reducible refine Guard_split (fun h => ?_) (fun h => ?_) | with_reducible refine IfB_split (fun h => ?_) (fun h => ?_))
    exact hK _ _ ⟨pv, rfl, (PuI.keep hs (Keep.app none _ _) (by simp))⟩
  | true =>
    rw [if_pos rfl] at hK
    refine WC_of_body hT Try.func43 rfl (by simp [Try.f43]) (by simp [Try.f43]) (wx_sound hT _ ?_)
    simp only [Try.f43]
    repeat' (first | simp only [go_sem, Nat.reduceLT, Nat.reduceEqDiff, Nat.reduceAdd, Nat.reduceMul, Nat.reduceSub, Nat.reduceLeDiff, Int.reduceToNat, Int.reduceNeg, Int.reduceLT, Int.reduceLE, Int.reduceEq, reduceCtorEq, Int.natCast_zero, Int.natCast_one, Int.cast_ofNat_Int, Bool.not_not, false_eq_decide, true_eq_decide, hread0, hreadk, read_cons0, read_consk, astore_h0, astore_hk, hget0, hgetk, hset0, hsetk, hlen, hcat, Nat.add_assoc, Nat.add_zero, Nat.zero_add, List.length_append, and_true, true_and, AV.flat, hcJ, get_app hcJ, read_get hcJ, read_app hcJ, hiJ, get_app hiJ, read_get hiJ, read_app hiJ, hqJ, get_app hqJ, read_get hqJ, read_app hqJ, hpo, one_solid hpo, one_cells hpo, *, -hK, -hs, -hc, -hi, -tc, -hqJ2] | refine WC.call (tc _) ?_ | with_reducible refine IfB_dec (fun h => ?_) (fun h => ?_) | with_reducible refine Guard_dec (fun h => ?_) (fun h => ?_) | with_reducible refine Guard_ndec (fun h => ?_) (fun h => ?_) | with_reducible refine Guard_not (fun h => ?_) (fun h => ?_) | with_reducible refine IfB_ndec (fun h => ?_) (fun h => ?_) | with_reducible refine IfB_not (fun h => ?_) (fun h => ?_) | with_reducible refine Guard_split (fun h => ?_) (fun h => ?_) | with_reducible refine IfB_split (fun h => ?_) (fun h => ?_))
    refine append_enc (E := puE) (m := L) (ys := [pushN i ⟨t, k⟩]) (hs.own.keep0 (Keep.app none _ _)) se31 az47 td47 (by rw [Enc.row_one]; exact asrc_sl tk31 (Vs.sl (vs_at (st := .full) (by rw [List.getElem?_append_right (by simp)]; simp; exact ⟨rfl, rfl⟩) rfl rfl))) (by decide) (by show (P.length + 1) * 99 ≤ _; omega) (by simp; omega) ?_
    intro v4 H4 o4 k4 hn4
    have hv4 := o4.one
    have hq4 := k4.get hqJ2 hs.ne
    have hl4 := k4.len
    simp only [List.length_append, List.length_cons, List.length_nil] at hl4
    repeat' (first | simp only [go_sem, Nat.reduceLT, Nat.reduceEqDiff, Nat.reduceAdd, Nat.reduceMul, Nat.reduceSub, Nat.reduceLeDiff, Int.reduceToNat, Int.reduceNeg, Int.reduceLT, Int.reduceLE, Int.reduceEq, reduceCtorEq, Int.natCast_zero, Int.natCast_one, Int.cast_ofNat_Int, Bool.not_not, false_eq_decide, true_eq_decide, hread0, hreadk, read_cons0, read_consk, astore_h0, astore_hk, hget0, hgetk, hset0, hsetk, hlen, hcat, Nat.add_assoc, Nat.add_zero, Nat.zero_add, List.length_append, and_true, true_and, AV.flat, hq4, get_app hq4, read_get hq4, read_app hq4, astore_get hq4, astore_app hq4, get_set hq4, get_set_app hq4, read_set hq4, read_set_app hq4, astore_set hq4, astore_set_app hq4, List.set_set, hget0s, hgetks, hread0s, hreadks, List.length_set, hv4, one_solid hv4, one_cells hv4, *, -hK, -hs, -hc, -hi, -tc, -o4, -k4, -hn4] | with_reducible refine IfB_dec (fun h => ?_) (fun h => ?_) | with_reducible refine Guard_dec (fun h => ?_) (fun h => ?_) | with_reducible refine Guard_ndec (fun h => ?_) (fun h => ?_) | with_reducible refine Guard_not (fun h => ?_) (fun h => ?_) | with_reducible refine IfB_ndec (fun h => ?_) (fun h => ?_) | with_reducible refine IfB_not (fun h => ?_) (fun h => ?_) | with_reducible refine Guard_split (fun h => ?_) (fun h => ?_) | with_reducible refine IfB_split (fun h => ?_) (fun h => ?_))
    have hv4q : v4.blk ≠ some q := fun e => by
      rcases hn4 _ e with h | h
      · exact hs.ne h
      · simp at h; omega
    refine hK _ _ ⟨v4, rfl, ⟨⟨List.getElem?_set_self (by omega), o4.keep (Keep.of_set rfl) (fun b hb e => by cases hb; exact hv4q e), hv4q, hs.ge⟩, by simp; omega, fun b hb hbq hbp _ => ?_, fun b hb => ?_⟩⟩
    · rw [List.getElem?_set_ne (fun e => hbq e.symm), k4.at_ b (by simp; omega) hbp, List.getElem?_append_left hb]
    · rcases hn4 _ hb with h | h
      · exact .inl h
      · exact .inr (by simp at h; omega)

theorem nmIdxP (L q bc bi : Nat) (c : Chg) (i : Nat) (m : Nat) (v : AV) (xs : List Nm) (H : Heap) (pv : AV) (P : List Pu) (hn : xs.length ≤ 1000) (hv : OwnE nmE m H v xs) (hvL : ∀ b, v.blk = some b → b < L) (hq0 : PuS L q H pv P)
    (hc : H[bc]? = some ⟨c.cs, 0, .full⟩) (hi : H[bi]? = some ⟨[.int .i64 i], 0, .full⟩) (hne : bc ≠ q ∧ bi ≠ q ∧ pv.blk ≠ some bc ∧ pv.blk ≠ some bi) (hLH : L ≤ H.length) (hP : P.length + xs.length ≤ 1000000) :
    WC Try.prog 59 [v, .fn 43 [] [.ptr bc 0, .ptr q 0, .ptr bi 0]] H fun r H' => ∃ pv', r = .int .i64 (idxI (xs.findIdx? (tkHit c))) ∧ PuI L q none H pv H' pv' (P ++ pushT c i (xs.take (match xs.findIdx? (tkHit c) with | some k => k + 1 | none => xs.length))) := by
  refine WC_of_K fun K hK => ?_
  refine WC_of_body hT Try.func59 rfl (by simp [Try.f59]) (by simp [Try.f59]) (wx_sound hT _ ?_)
  simp only [Try.f59]
  have e0 := hv.alen (by decide) tk34
  repeat' (first | simp only [go_sem, Nat.reduceLT, Nat.reduceEqDiff, Nat.reduceAdd, Nat.reduceMul, Nat.reduceSub, Nat.reduceLeDiff, Int.reduceToNat, Int.reduceNeg, Int.reduceLT, Int.reduceLE, Int.reduceEq, reduceCtorEq, Int.natCast_zero, Int.natCast_one, Int.cast_ofNat_Int, Bool.not_not, false_eq_decide, true_eq_decide, hread0, hreadk, read_cons0, read_consk, astore_h0, astore_hk, hget0, hgetk, hset0, hsetk, hlen, hcat, Nat.add_assoc, Nat.add_zero, Nat.zero_add, List.length_append, and_true, true_and, AV.flat, *, -hK, -hv, -hvL, -hq0, -hc, -hi, -hne] | with_reducible refine IfB_dec (fun h => ?_) (fun h => ?_) | with_reducible refine Guard_dec (fun h => ?_) (fun h => ?_) | with_reducible refine Guard_ndec (fun h => ?_) (fun h => ?_) | with_reducible refine Guard_not (fun h => ?_) (fun h => ?_) | with_reducible refine IfB_ndec (fun h => ?_) (fun h => ?_) | with_reducible refine IfB_not (fun h => ?_) (fun h => ?_) | with_reducible refine Guard_split (fun h => ?_) (fun h => ?_) | with_reducible refine IfB_split (fun h => ?_) (fun h => ?_))
  refine WX_loopS [0, 1, 7] (fun k fr' H' => ∃ (j : Nat) (pw : AV), k = xs.length - j ∧ j ≤ xs.length ∧ fr'.get 8 = .int .i64 j ∧ PuI L q none H pv H' pw (P ++ pushT c i (xs.take j)) ∧ ∀ k (hk : k < j) (hx : k < xs.length), tkHit c xs[k] = false) xs.length ⟨0, pv, rfl, by omega, by simp only [go_sem, Nat.reduceLT, Nat.reduceEqDiff, Nat.reduceAdd, Nat.reduceMul, Nat.reduceSub, Nat.reduceLeDiff, Int.reduceToNat, Int.reduceNeg, Int.reduceLT, Int.reduceLE, Int.reduceEq, reduceCtorEq]; rfl, by rw [List.take_zero]; simp only [pushT, List.filter_nil, List.map_nil, List.append_nil]; exact PuI.refl hq0, fun j hj => by omega⟩ ?_
  rintro k fr' J A R hA hs hg hR ⟨j, pw, rfl, hj, f8, hI, hno⟩
  have s0 := hg 0 (by decide)
  have s1 := hg 1 (by decide)
  have s7 := hg 7 (by decide)
  simp only [Fr.get_put, Fr.get_init, List.getD_cons_zero, List.getD_cons_succ, Nat.reduceEqDiff, if_true, if_false] at s0 s1 s7
  refine wx_sound hT _ ?_
  by_cases hlt : j < xs.length
  rotate_left
  · have i1 : ¬ (j : Int) < xs.length := by omega
    have hf : xs.findIdx? (tkHit c) = none := by
      rw [List.findIdx?_eq_none_iff]
      intro x hx
      obtain ⟨k, hk, rfl⟩ := List.getElem_of_mem hx
      exact hno k (by omega) hk
    have hjn : j = xs.length := by omega
    rw [hf] at hK
    repeat' (first | simp only [go_sem, Nat.reduceLT, Nat.reduceEqDiff, Nat.reduceAdd, Nat.reduceMul, Nat.reduceSub, Nat.reduceLeDiff, Int.reduceToNat, Int.reduceNeg, Int.reduceLT, Int.reduceLE, Int.reduceEq, reduceCtorEq, Int.natCast_zero, Int.natCast_one, Int.cast_ofNat_Int, Bool.not_not, false_eq_decide, true_eq_decide, hread0, hreadk, read_cons0, read_consk, astore_h0, astore_hk, hget0, hgetk, hset0, hsetk, hlen, hcat, Nat.add_assoc, Nat.add_zero, Nat.zero_add, List.length_append, and_true, true_and, AV.flat, *, -hK, -hv, -hvL, -hq0, -hc, -hi, -hne, -hI, -hno, -hf, -hjn] | with_reducible refine IfB_dec (fun h => ?_) (fun h => ?_) | with_reducible refine Guard_dec (fun h => ?_) (fun h => ?_) | with_reducible refine Guard_ndec (fun h => ?_) (fun h => ?_) | with_reducible refine Guard_not (fun h => ?_) (fun h => ?_) | with_reducible refine IfB_ndec (fun h => ?_) (fun h => ?_) | with_reducible refine IfB_not (fun h => ?_) (fun h => ?_) | with_reducible refine Guard_split (fun h => ?_) (fun h => ?_) | with_reducible refine IfB_split (fun h => ?_) (fun h => ?_))
    exact hK _ _ ⟨pw, rfl, by rw [← hjn]; exact hI⟩
  have i1 : (j : Int) < xs.length := by omega
  have hvJ : OwnE nmE m J v xs := by
    rcases hv with hv | ⟨b, n, st, rest, rfl, q1, q2, q3⟩
    · exact .inl hv
    · have hb := hvL b rfl
      refine .inr ⟨b, n, st, rest, rfl, q1, ?_, q3⟩
      rw [hI.fr b (by omega) (by have := hq0.ge; omega) (fun e => by have := hq0.own.ge e; omega) (by simp)]; exact q2
  obtain ⟨b, o, e1, e2, -⟩ := hvJ.at_ (by decide) se34 hlt (k := .i64) rfl
  rw [show nmE.sz = 2 from rfl, nmE_cells] at e2
  have e3 := inc_id hlt (show xs.length ≤ 140737488355328 by omega)
  have hst := pushT_step (c := c) (i := i) hlt
  have hpl := pushT_len c i (xs.take j)
  have hcl := (List.getElem?_eq_some_iff.1 hc).1
  have hil := (List.getElem?_eq_some_iff.1 hi).1
  have cl := chgF_spec L q bc bi c i xs[j] J pw _ hI.st (by rw [hI.fr bc hcl hne.1 hne.2.2.1 (by simp)]; exact hc) (by rw [hI.fr bi hil hne.2.1 hne.2.2.2 (by simp)]; exact hi) (by have := hI.len; omega) (by rw [List.length_append]; rw [List.length_take] at hpl; omega)
  rw [List.append_assoc, ← hst] at cl
  cases hh : tkHit c xs[j] with
  | true =>
    have hf : xs.findIdx? (tkHit c) = some j := by
      rw [List.findIdx?_eq_some_iff_getElem]
      exact ⟨hlt, hh, fun k hk => by rw [hno k hk (by omega)]; simp⟩
    rw [hf] at hK
    rw [hh] at cl
    clear hst
    generalize xs[j] = x at *
    unfold Nm.av at cl
    repeat' (first | simp only [go_sem, Nat.reduceLT, Nat.reduceEqDiff, Nat.reduceAdd, Nat.reduceMul, Nat.reduceSub, Nat.reduceLeDiff, Int.reduceToNat, Int.reduceNeg, Int.reduceLT, Int.reduceLE, Int.reduceEq, reduceCtorEq, Int.natCast_zero, Int.natCast_one, Int.cast_ofNat_Int, Bool.not_not, false_eq_decide, true_eq_decide, hread0, hreadk, read_cons0, read_consk, astore_h0, astore_hk, hget0, hgetk, hset0, hsetk, hlen, hcat, Nat.add_assoc, Nat.add_zero, Nat.zero_add, List.length_append, and_true, true_and, AV.flat, *, -hK, -hv, -hvL, -hq0, -hc, -hi, -hne, -hI, -hno, -hf, -cl, -hvJ, -hpl, -hh] | with_reducible refine IfB_dec (fun h => ?_) (fun h => ?_) | with_reducible refine Guard_dec (fun h => ?_) (fun h => ?_) | with_reducible refine Guard_ndec (fun h => ?_) (fun h => ?_) | with_reducible refine Guard_not (fun h => ?_) (fun h => ?_) | with_reducible refine IfB_ndec (fun h => ?_) (fun h => ?_) | with_reducible refine IfB_not (fun h => ?_) (fun h => ?_) | with_reducible refine Guard_split (fun h => ?_) (fun h => ?_) | with_reducible refine IfB_split (fun h => ?_) (fun h => ?_))
    refine cl.mono ?_
    rintro r H2 ⟨pz, rfl, hI2⟩
    repeat' (first | simp only [go_sem, Nat.reduceLT, Nat.reduceEqDiff, Nat.reduceAdd, Nat.reduceMul, Nat.reduceSub, Nat.reduceLeDiff, Int.reduceToNat, Int.reduceNeg, Int.reduceLT, Int.reduceLE, Int.reduceEq, reduceCtorEq, Int.natCast_zero, Int.natCast_one, Int.cast_ofNat_Int, Bool.not_not, false_eq_decide, true_eq_decide, hread0, hreadk, read_cons0, read_consk, astore_h0, astore_hk, hget0, hgetk, hset0, hsetk, hlen, hcat, Nat.add_assoc, Nat.add_zero, Nat.zero_add, List.length_append, and_true, true_and, AV.flat, *, -hK, -hv, -hvL, -hq0, -hc, -hi, -hne, -hI, -hno, -hf, -cl, -hvJ, -hpl, -hh, -hI2] | with_reducible refine IfB_dec (fun h => ?_) (fun h => ?_) | with_reducible refine Guard_dec (fun h => ?_) (fun h => ?_) | with_reducible refine Guard_ndec (fun h => ?_) (fun h => ?_) | with_reducible refine Guard_not (fun h => ?_) (fun h => ?_) | with_reducible refine IfB_ndec (fun h => ?_) (fun h => ?_) | with_reducible refine IfB_not (fun h => ?_) (fun h => ?_) | with_reducible refine Guard_split (fun h => ?_) (fun h => ?_) | with_reducible refine IfB_split (fun h => ?_) (fun h => ?_))
    exact hK _ _ ⟨pz, rfl, hI.trans hI2⟩
  | false =>
    have back : ∀ fr2 J2 pz, A fr2 → fr2.get 8 = .int .i64 ((j + 1 : Nat) : Int) → PuI L q none H pv J2 pz (P ++ pushT c i (xs.take (j + 1))) → R fr2 J2 := fun fr2 J2 pz ha q1 q2 => hR fr2 J2 ha (xs.length - (j + 1)) (by omega) ⟨j + 1, pz, rfl, by omega, q1, q2, fun k hk hx => (Classical.em (k = j)).elim (fun e => by subst e; exact hh) (fun e => hno k (by omega) hx)⟩
    rw [hh] at cl
    clear hst hR
    generalize xs[j] = x at *
    unfold Nm.av at cl
    repeat' (first | simp only [go_sem, Nat.reduceLT, Nat.reduceEqDiff, Nat.reduceAdd, Nat.reduceMul, Nat.reduceSub, Nat.reduceLeDiff, Int.reduceToNat, Int.reduceNeg, Int.reduceLT, Int.reduceLE, Int.reduceEq, reduceCtorEq, Int.natCast_zero, Int.natCast_one, Int.cast_ofNat_Int, Bool.not_not, false_eq_decide, true_eq_decide, hread0, hreadk, read_cons0, read_consk, astore_h0, astore_hk, hget0, hgetk, hset0, hsetk, hlen, hcat, Nat.add_assoc, Nat.add_zero, Nat.zero_add, List.length_append, and_true, true_and, AV.flat, *, -hK, -hv, -hvL, -hq0, -hc, -hi, -hne, -hI, -hno, -cl, -hvJ, -hpl, -hh, -back] | with_reducible refine IfB_dec (fun h => ?_) (fun h => ?_) | with_reducible refine Guard_dec (fun h => ?_) (fun h => ?_) | with_reducible refine Guard_ndec (fun h => ?_) (fun h => ?_) | with_reducible refine Guard_not (fun h => ?_) (fun h => ?_) | with_reducible refine IfB_ndec (fun h => ?_) (fun h => ?_) | with_reducible refine IfB_not (fun h => ?_) (fun h => ?_) | with_reducible refine Guard_split (fun h => ?_) (fun h => ?_) | with_reducible refine IfB_split (fun h => ?_) (fun h => ?_))
    refine cl.mono ?_
    rintro r H2 ⟨pz, rfl, hI2⟩
    repeat' (first | simp only [go_sem, Nat.reduceLT, Nat.reduceEqDiff, Nat.reduceAdd, Nat.reduceMul, Nat.reduceSub, Nat.reduceLeDiff, Int.reduceToNat, Int.reduceNeg, Int.reduceLT, Int.reduceLE, Int.reduceEq, reduceCtorEq, Int.natCast_zero, Int.natCast_one, Int.cast_ofNat_Int, Bool.not_not, false_eq_decide, true_eq_decide, hread0, hreadk, read_cons0, read_consk, astore_h0, astore_hk, hget0, hgetk, hset0, hsetk, hlen, hcat, Nat.add_assoc, Nat.add_zero, Nat.zero_add, List.length_append, and_true, true_and, AV.flat, *, -hK, -hv, -hvL, -hq0, -hc, -hi, -hne, -hI, -hno, -cl, -hvJ, -hpl, -hh, -hI2, -back] | with_reducible refine IfB_dec (fun h => ?_) (fun h => ?_) | with_reducible refine Guard_dec (fun h => ?_) (fun h => ?_) | with_reducible refine Guard_ndec (fun h => ?_) (fun h => ?_) | with_reducible refine Guard_not (fun h => ?_) (fun h => ?_) | with_reducible refine IfB_ndec (fun h => ?_) (fun h => ?_) | with_reducible refine IfB_not (fun h => ?_) (fun h => ?_) | with_reducible refine Guard_split (fun h => ?_) (fun h => ?_) | with_reducible refine IfB_split (fun h => ?_) (fun h => ?_))
    exact back _ _ pz (by (repeat (first | exact hs | refine hA _ _ _ (by decide) ?_))) (by simp only [go_sem, Nat.reduceLT, Nat.reduceEqDiff, Nat.reduceAdd, Nat.reduceMul, Nat.reduceSub, Nat.reduceLeDiff, Int.reduceToNat, Int.reduceNeg, Int.reduceLT, Int.reduceLE, Int.reduceEq, reduceCtorEq]) (hI.trans hI2)
end Go.Proofs.Ytccfhighlpfdmaa

