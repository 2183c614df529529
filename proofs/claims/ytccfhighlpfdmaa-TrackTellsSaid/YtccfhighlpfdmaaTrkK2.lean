import Derived.Test.YtccfhighlpfdmaaTrkJ2
set_option linter.unusedSimpArgs false
set_option linter.unusedVariables false
set_option maxRecDepth 100000
set_option maxHeartbeats 4000000
namespace Go.Proofs.Ytccfhighlpfdmaa
open Go Go.Proofs Go.Proofs.PI
/-! ### the document's Twin -/
theorem row2_append (l : List (AV × AV)) (x : AV × AV) : row2 (l ++ [x]) = row2 l ++ [x.1, x.2] := by
  induction l with
  | nil => rfl
  | cons y l ih => show y.1 :: y.2 :: row2 (l ++ [x]) = _; rw [ih]; rfl
structure TkW (m : Nat) (J : Heap) (v : AV) (ps : List (AV × AV)) (l : List Tk) : Prop where
  own : Own m J v 2 (row2 ps)
  len : ps.length = l.length
  el : ∀ (i : Nat) x t, ps[i]? = some x → l[i]? = some t → x.1 = .bool t.on ∧ OwnE nmE m J x.2 t.ns ∧ ∀ b, x.2.blk = some b → v.blk ≠ some b
  dis : ∀ (i j : Nat) x y b, i ≠ j → ps[i]? = some x → ps[j]? = some y → x.2.blk = some b → y.2.blk ≠ some b
theorem TkW.nil (m : Nat) (J : Heap) : TkW m J .nils [] [] := ⟨.inl ⟨rfl, rfl⟩, rfl, fun i x t h => by simp at h, fun i j x y b _ h => by simp at h⟩
theorem TkW.keep {m : Nat} {J G : Heap} {v : AV} {ps : List (AV × AV)} {l : List Tk} (w : TkW m J v ps l) (k : Keep none J G) : TkW m G v ps l :=
  ⟨w.own.keep0 k, w.len, fun i x t hx ht => by obtain ⟨a, b, c⟩ := w.el i x t hx ht; exact ⟨a, b.keep0 k, c⟩, w.dis⟩
/-- What lies below m is not asked. -/
theorem TkW.low {m : Nat} {J G : Heap} {v : AV} {ps : List (AV × AV)} {l : List Tk} (w : TkW m J v ps l) (h : ∀ b, m ≤ b → b < J.length → G[b]? = J[b]?) : TkW m G v ps l := by
  have key : ∀ {sz : Nat} {u : AV} {cs : List AV}, Own m J u sz cs → Own m G u sz cs := by
    intro sz u cs ho
    rcases ho with ho | ⟨b, n, st, rest, e, q1, q2, q3⟩
    · exact .inl ho
    · exact .inr ⟨b, n, st, rest, e, q1, by rw [h b q1 (List.getElem?_eq_some_iff.1 q2).1]; exact q2, q3⟩
  exact ⟨key w.own, w.len, fun i x t hx ht => by obtain ⟨a, b, c⟩ := w.el i x t hx ht; exact ⟨a, key b, c⟩, w.dis⟩
theorem TkW.out {m : Nat} {J : Heap} {v : AV} {ps : List (AV × AV)} {l : List Tk} (w : TkW m J v ps l) {m2 : Nat} (hm : m2 ≤ m) : TrOut m2 J v l := by
  rcases w.own with ⟨rfl, h0⟩ | ⟨b, n, st, rest, rfl, h1, h2, h3, h4⟩
  · left
    have := row2_len ps
    rw [h0] at this
    have hl := w.len
    refine ⟨List.eq_nil_of_length_eq_zero (by simp at this; omega), rfl⟩
  · right
    have hr := row2_len ps
    have hl := w.len
    have hn : n = l.length := by omega
    subst hn
    refine ⟨b, ps, rfl, w.len, Nat.le_trans hm h1, ⟨st, rest, h2, h3⟩, fun i x t hx ht => ?_, w.dis⟩
    obtain ⟨a, o, c⟩ := w.el i x t hx ht
    have hi : i < l.length := (List.getElem?_eq_some_iff.1 ht).1
    exact ⟨a, fun h => by omega, fun _ => o.mono hm, fun e => c b e rfl⟩
/-- One more. -/
theorem TkW.snoc {m : Nat} {J J1 J2 : Heap} {v v' s : AV} {ps : List (AV × AV)} {l : List Tk} (w : TkW m J v ps l) (t : Tk) (k1 : Keep none J J1) (os : OwnE nmE J.length J1 s t.ns) (hm : m ≤ J.length)
    (ho : Own m J2 v' 2 (row2 ps ++ [.bool t.on, s])) (k2 : Keep v.blk J1 J2) (hn : ∀ b, v'.blk = some b → v.blk = some b ∨ J1.length ≤ b) : TkW m J2 v' (ps ++ [(.bool t.on, s)]) (l ++ [t]) := by
  have hvl : ∀ b, v.blk = some b → b < J.length := fun b hb => w.own.lt hb
  have hJ1 := k1.len
  refine ⟨by rw [row2_append]; exact ho, by simp [w.len], fun i x u hx hu => ?_, fun i j x y b hne hx hy hb => ?_⟩
  · by_cases hi : i < l.length
    · rw [List.getElem?_append_left (by rw [w.len]; exact hi)] at hx
      rw [List.getElem?_append_left hi] at hu
      obtain ⟨a, o, c⟩ := w.el i x u hx hu
      refine ⟨a, (o.keep0 k1).keep k2 (fun b hb e => c b e hb), fun b hb e => ?_⟩
      rcases hn b e with h | h
      · exact c b hb h
      · have := o.lt hb; omega
    · have hil : i = l.length := by
        have := (List.getElem?_eq_some_iff.1 hu).1
        simp at this; omega
      subst hil
      rw [List.getElem?_append_right (by rw [w.len]; exact Nat.le_refl _), w.len, Nat.sub_self] at hx
      rw [List.getElem?_append_right (Nat.le_refl _), Nat.sub_self] at hu
      cases hx; cases hu
      refine ⟨rfl, (os.mono hm).keep k2 (fun b hb e => by have h1 := hvl b hb; have h2 := os.ge e; omega), fun b hb e => ?_⟩
      rcases hn b e with h | h
      · have h1 := hvl b h; have h2 := os.ge hb; omega
      · have := os.lt hb; omega
  · have hxb : ∀ (i : Nat) x b, (ps ++ [((AV.bool t.on, s) : AV × AV)])[i]? = some x → x.2.blk = some b → (i < ps.length ∧ ps[i]? = some x ∧ b < J.length) ∨ (i = ps.length ∧ J.length ≤ b) := by
      intro i x b hx hb
      by_cases hi : i < ps.length
      · rw [List.getElem?_append_left hi] at hx
        obtain ⟨u, ht⟩ : ∃ u, l[i]? = some u := ⟨_, List.getElem?_eq_getElem (by rw [← w.len]; exact hi)⟩
        exact .inl ⟨hi, hx, ((w.el i x u hx ht).2.1).lt hb⟩
      · have hil : i = ps.length := by
          have := (List.getElem?_eq_some_iff.1 hx).1
          simp at this; omega
        subst hil
        rw [List.getElem?_append_right (Nat.le_refl _), Nat.sub_self] at hx
        cases hx
        exact .inr ⟨rfl, os.ge hb⟩
    intro hyb
    rcases hxb i x b hx hb with ⟨h1, h2, h3⟩ | ⟨h1, h2⟩
    · rcases hxb j y b hy hyb with ⟨g1, g2, g3⟩ | ⟨g1, g2⟩
      · exact w.dis i j x y b hne h2 g2 hb hyb
      · omega
    · rcases hxb j y b hy hyb with ⟨g1, g2, g3⟩ | ⟨g1, g2⟩
      · omega
      · omega
theorem refTwin_own (l : List Tk) (hn : l.length ≤ 1000) (hns : ∀ t ∈ l, t.ns.length ≤ 1000) (H : Heap) :
    WC Try.prog 27 [trAv l] H fun r H' => (∃ v, r = .agg [v] ∧ TrOut H.length H' v l) ∧ Keep none H H' := by
  refine WC_of_K fun K hK => ?_
  unfold trAv
  refine WC_of_body hT Try.func27 rfl (by simp [Try.f27]) (by simp [Try.f27]) (wx_sound hT _ ?_)
  simp only [Try.f27]
  repeat' (first | simp only [go_sem, Nat.reduceLT, Nat.reduceEqDiff, Nat.reduceAdd, Nat.reduceMul, Nat.reduceSub, Nat.reduceLeDiff, Int.reduceToNat, Int.reduceNeg, Int.reduceLT, Int.reduceLE, Int.reduceEq, reduceCtorEq, Int.natCast_zero, Int.natCast_one, Int.cast_ofNat_Int, Bool.not_not, false_eq_decide, true_eq_decide, hread0, hreadk, read_cons0, read_consk, astore_h0, astore_hk, hget0, hgetk, hset0, hsetk, hlen, hcat, Nat.add_assoc, Nat.add_zero, Nat.zero_add, List.length_append, and_true, true_and, AV.flat, *, -hK, -hns] | with_reducible refine IfB_dec (fun h => ?_) (fun h => ?_) | with_reducible refine Guard_dec (fun h => ?_) (fun h => ?_) | with_reducible refine Guard_ndec (fun h => ?_) (fun h => ?_) | with_reducible refine Guard_not (fun h => ?_) (fun h => ?_) | with_reducible refine IfB_ndec (fun h => ?_) (fun h => ?_) | with_reducible refine IfB_not (fun h => ?_) (fun h => ?_) | with_reducible refine Guard_split (fun h => ?_) (fun h => ?_) | with_reducible refine IfB_split (fun h => ?_) (fun h => ?_))
  refine WX_loopS [1, 2, 3] (fun k fr' J => ∃ (i : Nat) (v : AV) (ps : List (AV × AV)), k = l.length - i ∧ i ≤ l.length ∧ fr'.get 4 = .int .i64 i ∧ J[H.length]? = some (⟨[tkE.lst l], 0, .full⟩ : Blk) ∧ J[H.length + 1]? = some (⟨[.nils], 0, .full⟩ : Blk) ∧ J[H.length + 2]? = some (⟨[v], 0, .full⟩ : Blk) ∧ TkW (H.length + 3) J v ps (l.take i) ∧ Keep none H J) l.length ⟨0, .nils, [], rfl, by omega, by simp only [go_sem, Nat.reduceLT, Nat.reduceEqDiff, Nat.reduceAdd, Nat.reduceMul, Nat.reduceSub, Nat.reduceLeDiff, Int.reduceToNat, Int.reduceNeg, Int.reduceLT, Int.reduceLE, Int.reduceEq, reduceCtorEq]; rfl, by simp, by simp, by simp, TkW.nil _ _, Keep.app _ _ _⟩ ?_
  rintro k fr' J A R hA hs hg hR ⟨i, v, ps, rfl, hi, f4, g0, g1, g2, W, kJ⟩
  have s1 := hg 1 (by decide)
  have s2 := hg 2 (by decide)
  have s3 := hg 3 (by decide)
  simp only [Fr.get_put, Fr.get_init, List.getD_cons_zero, List.getD_cons_succ, Nat.reduceEqDiff, if_true, if_false] at s1 s2 s3
  refine wx_sound hT _ ?_
  have hvo := W.own.one
  have hJl := (List.getElem?_eq_some_iff.1 g2).1
  have hvg : ∀ b, v.blk = some b → H.length + 3 ≤ b := fun b hb => W.own.ge hb
  by_cases hlt : i < l.length
  rotate_left
  · have i1 : ¬ (i : Int) < l.length := by omega
    have hie : i = l.length := by omega
    rw [hie, List.take_length] at W
    repeat' (first | simp only [go_sem, Nat.reduceLT, Nat.reduceEqDiff, Nat.reduceAdd, Nat.reduceMul, Nat.reduceSub, Nat.reduceLeDiff, Int.reduceToNat, Int.reduceNeg, Int.reduceLT, Int.reduceLE, Int.reduceEq, reduceCtorEq, Int.natCast_zero, Int.natCast_one, Int.cast_ofNat_Int, Bool.not_not, false_eq_decide, true_eq_decide, hread0, hreadk, read_cons0, read_consk, astore_h0, astore_hk, hget0, hgetk, hset0, hsetk, hlen, hcat, Nat.add_assoc, Nat.add_zero, Nat.zero_add, List.length_append, and_true, true_and, AV.flat, g0, get_app g0, read_get g0, read_app g0, g2, get_app g2, read_get g2, read_app g2, g1, get_app g1, read_get g1, read_app g1, astore_get g1, astore_app g1, get_set g1, get_set_app g1, read_set g1, read_set_app g1, astore_set g1, astore_set_app g1, List.set_set, hget0s, hgetks, hread0s, hreadks, List.length_set, hvo, one_solid hvo, one_cells hvo, *, -hK, -hns, -W, -kJ, -hJl, -hvg, -hie] | with_reducible refine IfB_dec (fun h => ?_) (fun h => ?_) | with_reducible refine Guard_dec (fun h => ?_) (fun h => ?_) | with_reducible refine Guard_ndec (fun h => ?_) (fun h => ?_) | with_reducible refine Guard_not (fun h => ?_) (fun h => ?_) | with_reducible refine IfB_ndec (fun h => ?_) (fun h => ?_) | with_reducible refine IfB_not (fun h => ?_) (fun h => ?_) | with_reducible refine Guard_split (fun h => ?_) (fun h => ?_) | with_reducible refine IfB_split (fun h => ?_) (fun h => ?_))
    refine hK _ _ ⟨⟨v, rfl, (W.low fun b hb _ => by rw [List.getElem?_set_ne (by omega)]).out (by omega)⟩, ⟨by simp; exact kJ.len, fun b hb _ => by rw [List.getElem?_set_ne (by omega)]; exact kJ.at_ b hb (by simp)⟩⟩
  have i1 : (i : Int) < l.length := by omega
  have e3 := inc_id hlt (by omega)
  have e1 := at_enc (E := tkE) (T := T) (k := .i64) se22 hlt rfl
  rw [tkE_cells] at e1
  have hnt := hns _ (List.getElem_mem hlt)
  have htk := List.take_succ_eq_append_getElem hlt
  have back : ∀ fr2 J2 v2 qs, A fr2 → fr2.get 4 = .int .i64 ((i + 1 : Nat) : Int) → J2[H.length]? = some (⟨[tkE.lst l], 0, .full⟩ : Blk) → J2[H.length + 1]? = some (⟨[.nils], 0, .full⟩ : Blk) → J2[H.length + 2]? = some (⟨[v2], 0, .full⟩ : Blk) → TkW (H.length + 3) J2 v2 qs (l.take i ++ [l[i]]) → Keep none H J2 → R fr2 J2 := fun fr2 J2 v2 qs ha q1 q2 q3 q4 q5 q6 => hR fr2 J2 ha (l.length - (i + 1)) (by omega) ⟨i + 1, v2, qs, rfl, by omega, q1, q2, q3, q4, by rw [htk]; exact q5, q6⟩
  have hplen : (row2 ps).length = i * 2 := by rw [row2_len, W.len, List.length_take]; omega
  clear hR htk
  generalize l[i] = t at *
  have src := fun J => src_enc (T := T) (H := J) (E := nmE) (xs := t.ns) tk34
  repeat' (first | simp only [go_sem, Nat.reduceLT, Nat.reduceEqDiff, Nat.reduceAdd, Nat.reduceMul, Nat.reduceSub, Nat.reduceLeDiff, Int.reduceToNat, Int.reduceNeg, Int.reduceLT, Int.reduceLE, Int.reduceEq, reduceCtorEq, Int.natCast_zero, Int.natCast_one, Int.cast_ofNat_Int, Bool.not_not, false_eq_decide, true_eq_decide, hread0, hreadk, read_cons0, read_consk, astore_h0, astore_hk, hget0, hgetk, hset0, hsetk, hlen, hcat, Nat.add_assoc, Nat.add_zero, Nat.zero_add, List.length_append, and_true, true_and, AV.flat, g0, get_app g0, read_get g0, read_app g0, g2, get_app g2, read_get g2, read_app g2, hvo, one_solid hvo, one_cells hvo, *, -hK, -hns, -W, -kJ, -hJl, -hvg, -hnt, -back, -hplen, -src, -g1] | with_reducible refine IfB_dec (fun h => ?_) (fun h => ?_) | with_reducible refine Guard_dec (fun h => ?_) (fun h => ?_) | with_reducible refine Guard_ndec (fun h => ?_) (fun h => ?_) | with_reducible refine Guard_not (fun h => ?_) (fun h => ?_) | with_reducible refine IfB_ndec (fun h => ?_) (fun h => ?_) | with_reducible refine IfB_not (fun h => ?_) (fun h => ?_) | with_reducible refine Guard_split (fun h => ?_) (fun h => ?_) | with_reducible refine IfB_split (fun h => ?_) (fun h => ?_))
  refine WX_rows hT hmix [(0, none), (1, none), (2, none), (3, none), (4, none), (5, none), (6, none), (7, none), (8, none), (9, none), (10, none), (11, none), (12, none), (13, none), (14, some [true, true, true, true, true, true, false, false, false, false, false, false, false, false]), (15, none), (16, none), (17, some [true, true, true, true, true, true, true, true, true, true, true, true, true, true, true, true, true]), (18, none), (19, some [true, true, true, true, true, true, true, true, true, true, true, true, true, true, true, true, true, true, true])] (by kernel_rfl) ?_
  repeat' (first | simp only [go_sem, Nat.reduceLT, Nat.reduceEqDiff, Nat.reduceAdd, Nat.reduceMul, Nat.reduceSub, Nat.reduceLeDiff, Int.reduceToNat, Int.reduceNeg, Int.reduceLT, Int.reduceLE, Int.reduceEq, reduceCtorEq, Int.natCast_zero, Int.natCast_one, Int.cast_ofNat_Int, Bool.not_not, false_eq_decide, true_eq_decide, hread0, hreadk, read_cons0, read_consk, astore_h0, astore_hk, hget0, hgetk, hset0, hsetk, hlen, hcat, Nat.add_assoc, Nat.add_zero, Nat.zero_add, List.length_append, and_true, true_and, AV.flat, g0, get_app g0, read_get g0, read_app g0, g2, get_app g2, read_get g2, read_app g2, hvo, one_solid hvo, one_cells hvo, *, -hK, -hns, -W, -kJ, -hJl, -hvg, -hnt, -back, -hplen, -src, -g1] | with_reducible refine IfB_dec (fun h => ?_) (fun h => ?_) | with_reducible refine Guard_dec (fun h => ?_) (fun h => ?_) | with_reducible refine Guard_ndec (fun h => ?_) (fun h => ?_) | with_reducible refine Guard_not (fun h => ?_) (fun h => ?_) | with_reducible refine IfB_ndec (fun h => ?_) (fun h => ?_) | with_reducible refine IfB_not (fun h => ?_) (fun h => ?_) | with_reducible refine Guard_split (fun h => ?_) (fun h => ?_) | with_reducible refine IfB_split (fun h => ?_) (fun h => ?_))
  refine append_enc (E := nmE) (m := J.length) (ys := t.ns) (OwnE.nils nmE J.length J) se34 az38 td38 (src _) (by decide) (by show (0 + t.ns.length) * 50 ≤ _; omega) (Nat.le_refl _) ?_
  intro s J1 os k1 hn1
  rw [List.nil_append] at os
  have hso := os.one
  have hv0 : (AV.nils).blk = none := rfl
  rw [hv0] at k1
  have q0 := k1.get g0 (by simp)
  have q1 := k1.get g1 (by simp)
  have q2 := k1.get g2 (by simp)
  have hJ1 := k1.len
  have W1 := W.keep (k1.trans (Keep.app none J1 [(⟨[.bool t.on, s], 2, .full⟩ : Blk)]))
  repeat' (first | simp only [go_sem, Nat.reduceLT, Nat.reduceEqDiff, Nat.reduceAdd, Nat.reduceMul, Nat.reduceSub, Nat.reduceLeDiff, Int.reduceToNat, Int.reduceNeg, Int.reduceLT, Int.reduceLE, Int.reduceEq, reduceCtorEq, Int.natCast_zero, Int.natCast_one, Int.cast_ofNat_Int, Bool.not_not, false_eq_decide, true_eq_decide, hread0, hreadk, read_cons0, read_consk, astore_h0, astore_hk, hget0, hgetk, hset0, hsetk, hlen, hcat, Nat.add_assoc, Nat.add_zero, Nat.zero_add, List.length_append, and_true, true_and, AV.flat, q0, get_app q0, read_get q0, read_app q0, q2, get_app q2, read_get q2, read_app q2, hvo, one_solid hvo, one_cells hvo, hso, one_solid hso, one_cells hso, *, -hK, -hns, -W, -kJ, -hJl, -hvg, -hnt, -back, -hplen, -src, -g1, -os, -k1, -hn1, -q1, -g0, -g2, -W1, -hJ1] | with_reducible refine IfB_dec (fun h => ?_) (fun h => ?_) | with_reducible refine Guard_dec (fun h => ?_) (fun h => ?_) | with_reducible refine Guard_ndec (fun h => ?_) (fun h => ?_) | with_reducible refine Guard_not (fun h => ?_) (fun h => ?_) | with_reducible refine IfB_ndec (fun h => ?_) (fun h => ?_) | with_reducible refine IfB_not (fun h => ?_) (fun h => ?_) | with_reducible refine Guard_split (fun h => ?_) (fun h => ?_) | with_reducible refine IfB_split (fun h => ?_) (fun h => ?_))
  refine append_own (k := 1) (xs := [.bool t.on, s]) W1.own se22 az36 td36 (asrc_sl tk22 (Vs.sl (vs_at (st := .full) (by simp) rfl rfl))) rfl (by decide) (by rw [hplen]; show (i * 2 + 2) * 32 ≤ _; omega) (by rw [hplen]; show i * 2 + 2 ≤ _; omega) (by simp; omega) ?_
  intro v2 J2 ov2 k2 hn2
  have hv2 := ov2.one
  have z0 := k2.get (get_app q0 _) (fun e => by have := hvg _ e; omega)
  have z1 := k2.get (get_app q1 _) (fun e => by have := hvg _ e; omega)
  have z2 := k2.get (get_app q2 _) (fun e => by have := hvg _ e; omega)
  have hJ2 := k2.len
  simp only [List.length_append, List.length_cons, List.length_nil] at hJ2
  have W2 := W.snoc t k1 os (by omega) ov2 ((Keep.weak (Keep.app none J1 _)).trans k2) (fun b hb => (hn2 b hb).imp id fun h => by simp at h; omega)
  repeat' (first | simp only [go_sem, Nat.reduceLT, Nat.reduceEqDiff, Nat.reduceAdd, Nat.reduceMul, Nat.reduceSub, Nat.reduceLeDiff, Int.reduceToNat, Int.reduceNeg, Int.reduceLT, Int.reduceLE, Int.reduceEq, reduceCtorEq, Int.natCast_zero, Int.natCast_one, Int.cast_ofNat_Int, Bool.not_not, false_eq_decide, true_eq_decide, hread0, hreadk, read_cons0, read_consk, astore_h0, astore_hk, hget0, hgetk, hset0, hsetk, hlen, hcat, Nat.add_assoc, Nat.add_zero, Nat.zero_add, List.length_append, and_true, true_and, AV.flat, z0, get_app z0, read_get z0, read_app z0, z2, get_app z2, read_get z2, read_app z2, astore_get z2, astore_app z2, get_set z2, get_set_app z2, read_set z2, read_set_app z2, astore_set z2, astore_set_app z2, List.set_set, hget0s, hgetks, hread0s, hreadks, List.length_set, hvo, one_solid hvo, one_cells hvo, hso, one_solid hso, one_cells hso, hv2, one_solid hv2, one_cells hv2, *, -hK, -hns, -W, -kJ, -hJl, -hvg, -hnt, -back, -hplen, -src, -g1, -os, -k1, -hn1, -q1, -g0, -g2, -W1, -hJ1, -ov2, -k2, -hn2, -z1, -hJ2, -W2] | with_reducible refine IfB_dec (fun h => ?_) (fun h => ?_) | with_reducible refine Guard_dec (fun h => ?_) (fun h => ?_) | with_reducible refine Guard_ndec (fun h => ?_) (fun h => ?_) | with_reducible refine Guard_not (fun h => ?_) (fun h => ?_) | with_reducible refine IfB_ndec (fun h => ?_) (fun h => ?_) | with_reducible refine IfB_not (fun h => ?_) (fun h => ?_) | with_reducible refine Guard_split (fun h => ?_) (fun h => ?_) | with_reducible refine IfB_split (fun h => ?_) (fun h => ?_))
  exact back _ _ v2 _ (by (repeat (first | exact hs | refine hA _ _ _ (by decide) ?_))) (by simp only [go_sem, Nat.reduceLT, Nat.reduceEqDiff, Nat.reduceAdd, Nat.reduceMul, Nat.reduceSub, Nat.reduceLeDiff, Int.reduceToNat, Int.reduceNeg, Int.reduceLT, Int.reduceLE, Int.reduceEq, reduceCtorEq]) (by rw [List.getElem?_set_ne (by omega)]; exact z0) (by rw [List.getElem?_set_ne (by omega)]; exact z1) (List.getElem?_set_self (by omega)) (W2.low fun b hb _ => by rw [List.getElem?_set_ne (by omega)]) ⟨by simp; have := kJ.len; omega, fun b hb _ => by rw [List.getElem?_set_ne (by omega), k2.at_ b (by simp; omega) (fun e => by have := hvg _ e; omega), List.getElem?_append_left (by omega), k1.at_ b (by omega) (by simp)]; exact kJ.at_ b hb (by simp)⟩
theorem refTwin_spec (l : List Tk) (hn : l.length ≤ 1000) (hns : ∀ t ∈ l, t.ns.length ≤ 1000) (H : Heap) :
    WC Try.prog 27 [trAv l] H fun r H' => r = trAv l ∧ H' = H :=
  WC_val fun K hK => (refTwin_own l hn hns H).mono fun r H' ⟨⟨v, e, o⟩, k⟩ => hK r H' (by subst e; exact Thaw.agg_row ⟨o.thaw, trivial⟩) k
end Go.Proofs.Ytccfhighlpfdmaa

