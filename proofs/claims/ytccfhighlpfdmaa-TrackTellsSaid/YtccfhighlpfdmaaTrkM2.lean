import Derived.Test.YtccfhighlpfdmaaTrkK2
set_option linter.unusedSimpArgs false
set_option linter.unusedVariables false
set_option maxRecDepth 100000
set_option maxHeartbeats 4000000
namespace Go.Proofs.Ytccfhighlpfdmaa
open Go Go.Proofs Go.Proofs.PI
theorem refOn_own (l : List Tk) (i : Int) (hn : l.length ≤ 140737488355328) (hns : ∀ t ∈ l, t.ns.length ≤ 140737488355328) (H : Heap) :
    WC Try.prog 29 [trAv l, .int .i64 i] H fun r H' => (∃ v, r = .tup [.agg [v], .int .i64 (askE l i)] ∧ TrOut H.length H' v (if askE l i = 0 then l.set i.toNat ⟨true, (tkAt l i.toNat).ns⟩ else [])) ∧ Keep none H H' := by
  refine WC_of_K fun K hK => ?_
  have ask := fun J => refAsked_spec l i hn hns J
  unfold trAv at *
  by_cases ha : askE l i = 0
  rotate_left
  · rw [if_neg ha] at hK
    generalize askE l i = e at *
    refine WC_of_body hT Try.func29 rfl (by simp [Try.f29]) (by simp [Try.f29]) (wx_sound hT _ ?_)
    simp only [Try.f29]
    repeat' (first | simp only [go_sem, Nat.reduceLT, Nat.reduceEqDiff, Nat.reduceAdd, Nat.reduceMul, Nat.reduceSub, Nat.reduceLeDiff, Int.reduceToNat, Int.reduceNeg, Int.reduceLT, Int.reduceLE, Int.reduceEq, reduceCtorEq, Int.natCast_zero, Int.natCast_one, Int.cast_ofNat_Int, Bool.not_not, false_eq_decide, true_eq_decide, hread0, hreadk, read_cons0, read_consk, astore_h0, astore_hk, hget0, hgetk, hset0, hsetk, hlen, hcat, Nat.add_assoc, Nat.add_zero, Nat.zero_add, List.length_append, and_true, true_and, AV.flat, *, -hK, -hns, -ask] | refine WC.call (ask _) ?_ | with_reducible refine IfB_dec (fun h => ?_) (fun h => ?_) | with_reducible refine Guard_dec (fun h => ?_) (fun h => ?_) | with_reducible refine Guard_ndec (fun h => ?_) (fun h => ?_) | with_reducible refine Guard_not (fun h => ?_) (fun h => ?_) | with_reducible refine IfB_ndec (fun h => ?_) (fun h => ?_) | with_reducible refine IfB_not (fun h => ?_) (fun h => ?_) | with_reducible refine Guard_split (fun h => ?_) (fun h => ?_) | with_reducible refine IfB_split (fun h => ?_) (fun h => ?_))
    exact hK _ _ ⟨⟨_, rfl, .inl ⟨rfl, rfl⟩⟩, Keep.app _ _ _⟩
  obtain ⟨hmay, hi0, hi1⟩ := askE_ok ha
  obtain ⟨j, rfl⟩ : ∃ j : Nat, i = j := ⟨i.toNat, by omega⟩
  have hj : j < l.length := by omega
  rw [ha, if_pos rfl, Int.toNat_natCast, tkAt_eq hj] at hK
  rw [ha] at ask
  have tw := fun J => refTwin_own l (by have := hmay.2.1; omega) (fun t ht => by have := (hmay.2.2 t ht).1.2; omega) J
  unfold trAv at tw
  refine WC_of_body hT Try.func29 rfl (by simp [Try.f29]) (by simp [Try.f29]) (wx_sound hT _ ?_)
  simp only [Try.f29]
  repeat' (first | simp only [go_sem, Nat.reduceLT, Nat.reduceEqDiff, Nat.reduceAdd, Nat.reduceMul, Nat.reduceSub, Nat.reduceLeDiff, Int.reduceToNat, Int.reduceNeg, Int.reduceLT, Int.reduceLE, Int.reduceEq, reduceCtorEq, Int.natCast_zero, Int.natCast_one, Int.cast_ofNat_Int, Bool.not_not, false_eq_decide, true_eq_decide, hread0, hreadk, read_cons0, read_consk, astore_h0, astore_hk, hget0, hgetk, hset0, hsetk, hlen, hcat, Nat.add_assoc, Nat.add_zero, Nat.zero_add, List.length_append, and_true, true_and, AV.flat, *, -hK, -hns, -ask, -tw, -hmay, -ha] | refine WC.call (ask _) ?_ | with_reducible refine IfB_dec (fun h => ?_) (fun h => ?_) | with_reducible refine Guard_dec (fun h => ?_) (fun h => ?_) | with_reducible refine Guard_ndec (fun h => ?_) (fun h => ?_) | with_reducible refine Guard_not (fun h => ?_) (fun h => ?_) | with_reducible refine IfB_ndec (fun h => ?_) (fun h => ?_) | with_reducible refine IfB_not (fun h => ?_) (fun h => ?_) | with_reducible refine Guard_split (fun h => ?_) (fun h => ?_) | with_reducible refine IfB_split (fun h => ?_) (fun h => ?_))
  refine (tw _).mono ?_
  rintro r H1 ⟨⟨v, rfl, ho⟩, k⟩
  clear ask tw
  have hb0 := k.get (b := H.length) (B := ⟨[tkE.lst l], 0, .full⟩) (by rw [hget0]; rfl) (by simp)
  have hbr := k.get (b := H.length + 1) (B := ⟨[.nils], 0, .full⟩) (by rw [hgetk]; rfl) (by simp)
  have kH : Keep none H H1 := (Keep.app none H _).trans k
  have hl1 : H.length + 2 ≤ H1.length := by have := k.len; simpa using this
  rcases ho with ⟨h0, -⟩ | ⟨p, ps, rfl, o⟩
  · rw [h0] at hj; simp at hj
  have kset : True := trivial
  have hbr1 : ∀ B : Blk, (H1 ++ [B] : Heap)[H.length + 1]? = some ⟨[.nils], 0, .full⟩ := fun B => by rw [List.getElem?_append_left (by omega)]; exact hbr
  obtain ⟨x, hx, ht, hon⟩ := o.get hj
  have o1 := (o.moved (Keep.app none H1 [(⟨[.sl p 0 l.length none], 0, .full⟩ : Blk)])).weaken (m2 := H.length + 2) (by simp)
  obtain ⟨-, -, x3, x4⟩ := o1.el j x _ hx ht
  replace x3 := x3 hj
  have e1 := TkO.addr (T' := T) (p := p) se22 hj
  have hpl := o.lt
  have hpg := o1.ge
  obtain ⟨st, rest, hst, w1⟩ := o1.storeOn (T' := T) hx rfl (te := 4) (by simp only [asize, td4, Option.map_some]) true
  have o2 := o1.upd' (y := (.bool true, x.2)) (t2 := ⟨true, l[j].ns⟩) (k2 := l.length) hx ht (.inl ⟨rfl, hj⟩) (Keep.refl _ _) rfl x3 (fun b hb => .inl hb) rest st hst
  have gr := hbr1 ⟨[.sl p 0 l.length none], 0, .full⟩
  have g9 : (H1 ++ [(⟨[.sl p 0 l.length none], 0, .full⟩ : Blk)] : Heap)[H1.length]? = some ⟨[.sl p 0 l.length none], 0, .full⟩ := by simp
  have hGl : (H1 ++ [(⟨[.sl p 0 l.length none], 0, .full⟩ : Blk)] : Heap).length = H1.length + 1 := by simp
  have kG := kH.trans (Keep.app none H1 [(⟨[.sl p 0 l.length none], 0, .full⟩ : Blk)])
  repeat' (first | simp only [go_sem, Nat.reduceLT, Nat.reduceEqDiff, Nat.reduceAdd, Nat.reduceMul, Nat.reduceSub, Nat.reduceLeDiff, Int.reduceToNat, Int.reduceNeg, Int.reduceLT, Int.reduceLE, Int.reduceEq, reduceCtorEq, Int.natCast_zero, Int.natCast_one, Int.cast_ofNat_Int, Bool.not_not, false_eq_decide, true_eq_decide, hread0, hreadk, read_cons0, read_consk, astore_h0, astore_hk, hget0, hgetk, hset0, hsetk, hlen, hcat, Nat.add_assoc, Nat.add_zero, Nat.zero_add, List.length_append, and_true, true_and, AV.flat, *, -hK, -hns, -k, -kH, -kset, -hbr1, -o, -o1, -o2, -x3, -x4, -hx, -ht, -hmay, -kG, -hon, -ha, -gr, -g9, -w1, -hbr, -hb0] | with_reducible refine IfB_dec (fun h => ?_) (fun h => ?_) | with_reducible refine Guard_dec (fun h => ?_) (fun h => ?_) | with_reducible refine Guard_ndec (fun h => ?_) (fun h => ?_) | with_reducible refine Guard_not (fun h => ?_) (fun h => ?_) | with_reducible refine IfB_ndec (fun h => ?_) (fun h => ?_) | with_reducible refine IfB_not (fun h => ?_) (fun h => ?_) | with_reducible refine Guard_split (fun h => ?_) (fun h => ?_) | with_reducible refine IfB_split (fun h => ?_) (fun h => ?_))
  generalize (H1 ++ [(⟨[.sl p 0 l.length none], 0, .full⟩ : Blk)] : Heap) = G at *
  have g92 : ∀ C, (List.set G p C)[H1.length]? = some ⟨[.sl p 0 l.length none], 0, .full⟩ := fun C => by rw [List.getElem?_set_ne (by omega)]; exact g9
  have gr2 : ∀ C, (List.set G p C)[H.length + 1]? = some ⟨[.nils], 0, .full⟩ := fun C => by rw [List.getElem?_set_ne (by omega)]; exact gr
  have g93 := g92 ⟨row2 (ps.set j (.bool true, x.2)) ++ rest, 2, st⟩
  have gr3 := gr2 ⟨row2 (ps.set j (.bool true, x.2)) ++ rest, 2, st⟩
  have kk : ∀ C D, Keep none H (List.set (List.set G p C) (H.length + 1) D) := fun C D => ⟨by simp; omega, fun b hb _ => by rw [List.getElem?_set_ne (by omega), List.getElem?_set_ne (by omega)]; exact kG.at_ b hb (by simp)⟩
  have ho : ∀ D, TrOut H.length (List.set (List.set G p ⟨row2 (ps.set j (.bool true, x.2)) ++ rest, 2, st⟩) (H.length + 1) D) (.sl p 0 l.length none) (l.set j ⟨true, l[j].ns⟩) := fun D => by
    have := o2.out (G := (List.set (List.set G p ⟨row2 (ps.set j (.bool true, x.2)) ++ rest, 2, st⟩) (H.length + 1) D)) (by rw [List.length_set]) (m2 := H.length) (by omega) (fun b hb _ => by rw [List.getElem?_set_ne (by omega)])
    rw [List.length_set] at this; exact this
  repeat' (first | simp only [go_sem, Nat.reduceLT, Nat.reduceEqDiff, Nat.reduceAdd, Nat.reduceMul, Nat.reduceSub, Nat.reduceLeDiff, Int.reduceToNat, Int.reduceNeg, Int.reduceLT, Int.reduceLE, Int.reduceEq, reduceCtorEq, Int.natCast_zero, Int.natCast_one, Int.cast_ofNat_Int, Bool.not_not, false_eq_decide, true_eq_decide, hread0, hreadk, read_cons0, read_consk, astore_h0, astore_hk, hget0, hgetk, hset0, hsetk, hlen, hcat, Nat.add_assoc, Nat.add_zero, Nat.zero_add, List.length_append, and_true, true_and, AV.flat, g9, get_app g9, read_get g9, read_app g9, g93, get_app g93, read_get g93, read_app g93, gr3, get_app gr3, read_get gr3, read_app gr3, astore_get gr3, astore_app gr3, get_set gr3, get_set_app gr3, read_set gr3, read_set_app gr3, astore_set gr3, astore_set_app gr3, List.set_set, hget0s, hgetks, hread0s, hreadks, List.length_set, *, -hK, -hns, -k, -kH, -kset, -hbr1, -o, -o1, -o2, -x3, -x4, -hx, -ht, -hmay, -kG, -hon, -ha, -gr, -g92, -gr2, -kk, -ho, -hbr, -hb0, -hst] | with_reducible refine IfB_dec (fun h => ?_) (fun h => ?_) | with_reducible refine Guard_dec (fun h => ?_) (fun h => ?_) | with_reducible refine Guard_ndec (fun h => ?_) (fun h => ?_) | with_reducible refine Guard_not (fun h => ?_) (fun h => ?_) | with_reducible refine IfB_ndec (fun h => ?_) (fun h => ?_) | with_reducible refine IfB_not (fun h => ?_) (fun h => ?_) | with_reducible refine Guard_split (fun h => ?_) (fun h => ?_) | with_reducible refine IfB_split (fun h => ?_) (fun h => ?_))
  exact hK _ _ ⟨⟨_, rfl, ho _⟩, kk _ _⟩
theorem refOff_own (l : List Tk) (i : Int) (hn : l.length ≤ 140737488355328) (hns : ∀ t ∈ l, t.ns.length ≤ 140737488355328) (H : Heap) :
    WC Try.prog 30 [trAv l, .int .i64 i] H fun r H' => (∃ v, r = .tup [.agg [v], .int .i64 (askE l i)] ∧ TrOut H.length H' v (if askE l i = 0 then l.set i.toNat ⟨false, []⟩ else [])) ∧ Keep none H H' := by
  refine WC_of_K fun K hK => ?_
  have ask := fun J => refAsked_spec l i hn hns J
  unfold trAv at *
  by_cases ha : askE l i = 0
  rotate_left
  · rw [if_neg ha] at hK
    generalize askE l i = e at *
    refine WC_of_body hT Try.func30 rfl (by simp [Try.f30]) (by simp [Try.f30]) (wx_sound hT _ ?_)
    simp only [Try.f30]
    repeat' (first | simp only [go_sem, Nat.reduceLT, Nat.reduceEqDiff, Nat.reduceAdd, Nat.reduceMul, Nat.reduceSub, Nat.reduceLeDiff, Int.reduceToNat, Int.reduceNeg, Int.reduceLT, Int.reduceLE, Int.reduceEq, reduceCtorEq, Int.natCast_zero, Int.natCast_one, Int.cast_ofNat_Int, Bool.not_not, false_eq_decide, true_eq_decide, hread0, hreadk, read_cons0, read_consk, astore_h0, astore_hk, hget0, hgetk, hset0, hsetk, hlen, hcat, Nat.add_assoc, Nat.add_zero, Nat.zero_add, List.length_append, and_true, true_and, AV.flat, *, -hK, -hns, -ask] | refine WC.call (ask _) ?_ | with_reducible refine IfB_dec (fun h => ?_) (fun h => ?_) | with_reducible refine Guard_dec (fun h => ?_) (fun h => ?_) | with_reducible refine Guard_ndec (fun h => ?_) (fun h => ?_) | with_reducible refine Guard_not (fun h => ?_) (fun h => ?_) | with_reducible refine IfB_ndec (fun h => ?_) (fun h => ?_) | with_reducible refine IfB_not (fun h => ?_) (fun h => ?_) | with_reducible refine Guard_split (fun h => ?_) (fun h => ?_) | with_reducible refine IfB_split (fun h => ?_) (fun h => ?_))
    exact hK _ _ ⟨⟨_, rfl, .inl ⟨rfl, rfl⟩⟩, Keep.app _ _ _⟩
  obtain ⟨hmay, hi0, hi1⟩ := askE_ok ha
  obtain ⟨j, rfl⟩ : ∃ j : Nat, i = j := ⟨i.toNat, by omega⟩
  have hj : j < l.length := by omega
  rw [ha, if_pos rfl, Int.toNat_natCast] at hK
  rw [ha] at ask
  have tw := fun J => refTwin_own l (by have := hmay.2.1; omega) (fun t ht => by have := (hmay.2.2 t ht).1.2; omega) J
  unfold trAv at tw
  refine WC_of_body hT Try.func30 rfl (by simp [Try.f30]) (by simp [Try.f30]) (wx_sound hT _ ?_)
  simp only [Try.f30]
  repeat' (first | simp only [go_sem, Nat.reduceLT, Nat.reduceEqDiff, Nat.reduceAdd, Nat.reduceMul, Nat.reduceSub, Nat.reduceLeDiff, Int.reduceToNat, Int.reduceNeg, Int.reduceLT, Int.reduceLE, Int.reduceEq, reduceCtorEq, Int.natCast_zero, Int.natCast_one, Int.cast_ofNat_Int, Bool.not_not, false_eq_decide, true_eq_decide, hread0, hreadk, read_cons0, read_consk, astore_h0, astore_hk, hget0, hgetk, hset0, hsetk, hlen, hcat, Nat.add_assoc, Nat.add_zero, Nat.zero_add, List.length_append, and_true, true_and, AV.flat, *, -hK, -hns, -ask, -tw, -hmay, -ha] | refine WC.call (ask _) ?_ | with_reducible refine IfB_dec (fun h => ?_) (fun h => ?_) | with_reducible refine Guard_dec (fun h => ?_) (fun h => ?_) | with_reducible refine Guard_ndec (fun h => ?_) (fun h => ?_) | with_reducible refine Guard_not (fun h => ?_) (fun h => ?_) | with_reducible refine IfB_ndec (fun h => ?_) (fun h => ?_) | with_reducible refine IfB_not (fun h => ?_) (fun h => ?_) | with_reducible refine Guard_split (fun h => ?_) (fun h => ?_) | with_reducible refine IfB_split (fun h => ?_) (fun h => ?_))
  refine (tw _).mono ?_
  rintro r H1 ⟨⟨v, rfl, ho⟩, k⟩
  clear ask tw
  have hb0 := k.get (b := H.length) (B := ⟨[tkE.lst l], 0, .full⟩) (by rw [hget0]; rfl) (by simp)
  have hbr := k.get (b := H.length + 1) (B := ⟨[.nils], 0, .full⟩) (by rw [hgetk]; rfl) (by simp)
  have kH : Keep none H H1 := (Keep.app none H _).trans k
  have hl1 : H.length + 2 ≤ H1.length := by have := k.len; simpa using this
  rcases ho with ⟨h0, -⟩ | ⟨p, ps, rfl, o⟩
  · rw [h0] at hj; simp at hj
  have kset : True := trivial
  have hbr1 : ∀ B : Blk, (H1 ++ [B] : Heap)[H.length + 1]? = some ⟨[.nils], 0, .full⟩ := fun B => by rw [List.getElem?_append_left (by omega)]; exact hbr
  obtain ⟨x, hx, ht, hon⟩ := o.get hj
  have o1 := (o.moved (Keep.app none H1 [(⟨[.sl p 0 l.length none], 0, .full⟩ : Blk)])).weaken (m2 := H.length + 2) (by simp)
  obtain ⟨-, -, x3, x4⟩ := o1.el j x _ hx ht
  replace x3 := x3 hj
  have e1 := TkO.addr (T' := T) (p := p) se22 hj
  have hpl := o.lt
  have hpg := o1.ge
  obtain ⟨st, rest, hst, w1⟩ := o1.store2 (T' := T) hx rfl (te := 36) (by simp only [asize, td36, Option.map_some]) (.bool false) .nils rfl
  have o2 := o1.upd' (y := (.bool false, .nils)) (t2 := ⟨false, []⟩) (k2 := l.length) hx ht (.inl ⟨rfl, hj⟩) (Keep.refl _ _) rfl (OwnE.nils _ _ _) (fun b hb => by cases hb) rest st hst
  have gr := hbr1 ⟨[.sl p 0 l.length none], 0, .full⟩
  have g9 : (H1 ++ [(⟨[.sl p 0 l.length none], 0, .full⟩ : Blk)] : Heap)[H1.length]? = some ⟨[.sl p 0 l.length none], 0, .full⟩ := by simp
  have hGl : (H1 ++ [(⟨[.sl p 0 l.length none], 0, .full⟩ : Blk)] : Heap).length = H1.length + 1 := by simp
  have kG := kH.trans (Keep.app none H1 [(⟨[.sl p 0 l.length none], 0, .full⟩ : Blk)])
  repeat' (first | simp only [go_sem, Nat.reduceLT, Nat.reduceEqDiff, Nat.reduceAdd, Nat.reduceMul, Nat.reduceSub, Nat.reduceLeDiff, Int.reduceToNat, Int.reduceNeg, Int.reduceLT, Int.reduceLE, Int.reduceEq, reduceCtorEq, Int.natCast_zero, Int.natCast_one, Int.cast_ofNat_Int, Bool.not_not, false_eq_decide, true_eq_decide, hread0, hreadk, read_cons0, read_consk, astore_h0, astore_hk, hget0, hgetk, hset0, hsetk, hlen, hcat, Nat.add_assoc, Nat.add_zero, Nat.zero_add, List.length_append, and_true, true_and, AV.flat, *, -hK, -hns, -k, -kH, -kset, -hbr1, -o, -o1, -o2, -x3, -x4, -hx, -ht, -hmay, -kG, -hon, -ha, -gr, -g9, -w1, -hbr, -hb0] | with_reducible refine IfB_dec (fun h => ?_) (fun h => ?_) | with_reducible refine Guard_dec (fun h => ?_) (fun h => ?_) | with_reducible refine Guard_ndec (fun h => ?_) (fun h => ?_) | with_reducible refine Guard_not (fun h => ?_) (fun h => ?_) | with_reducible refine IfB_ndec (fun h => ?_) (fun h => ?_) | with_reducible refine IfB_not (fun h => ?_) (fun h => ?_) | with_reducible refine Guard_split (fun h => ?_) (fun h => ?_) | with_reducible refine IfB_split (fun h => ?_) (fun h => ?_))
  generalize (H1 ++ [(⟨[.sl p 0 l.length none], 0, .full⟩ : Blk)] : Heap) = G at *
  have g92 : ∀ C, (List.set G p C)[H1.length]? = some ⟨[.sl p 0 l.length none], 0, .full⟩ := fun C => by rw [List.getElem?_set_ne (by omega)]; exact g9
  have gr2 : ∀ C, (List.set G p C)[H.length + 1]? = some ⟨[.nils], 0, .full⟩ := fun C => by rw [List.getElem?_set_ne (by omega)]; exact gr
  have g93 := g92 ⟨row2 (ps.set j (.bool false, .nils)) ++ rest, 2, st⟩
  have gr3 := gr2 ⟨row2 (ps.set j (.bool false, .nils)) ++ rest, 2, st⟩
  have kk : ∀ C D, Keep none H (List.set (List.set G p C) (H.length + 1) D) := fun C D => ⟨by simp; omega, fun b hb _ => by rw [List.getElem?_set_ne (by omega), List.getElem?_set_ne (by omega)]; exact kG.at_ b hb (by simp)⟩
  have ho : ∀ D, TrOut H.length (List.set (List.set G p ⟨row2 (ps.set j (.bool false, .nils)) ++ rest, 2, st⟩) (H.length + 1) D) (.sl p 0 l.length none) (l.set j ⟨false, []⟩) := fun D => by
    have := o2.out (G := (List.set (List.set G p ⟨row2 (ps.set j (.bool false, .nils)) ++ rest, 2, st⟩) (H.length + 1) D)) (by rw [List.length_set]) (m2 := H.length) (by omega) (fun b hb _ => by rw [List.getElem?_set_ne (by omega)])
    rw [List.length_set] at this; exact this
  repeat' (first | simp only [go_sem, Nat.reduceLT, Nat.reduceEqDiff, Nat.reduceAdd, Nat.reduceMul, Nat.reduceSub, Nat.reduceLeDiff, Int.reduceToNat, Int.reduceNeg, Int.reduceLT, Int.reduceLE, Int.reduceEq, reduceCtorEq, Int.natCast_zero, Int.natCast_one, Int.cast_ofNat_Int, Bool.not_not, false_eq_decide, true_eq_decide, hread0, hreadk, read_cons0, read_consk, astore_h0, astore_hk, hget0, hgetk, hset0, hsetk, hlen, hcat, Nat.add_assoc, Nat.add_zero, Nat.zero_add, List.length_append, and_true, true_and, AV.flat, g9, get_app g9, read_get g9, read_app g9, g93, get_app g93, read_get g93, read_app g93, gr3, get_app gr3, read_get gr3, read_app gr3, astore_get gr3, astore_app gr3, get_set gr3, get_set_app gr3, read_set gr3, read_set_app gr3, astore_set gr3, astore_set_app gr3, List.set_set, hget0s, hgetks, hread0s, hreadks, List.length_set, *, -hK, -hns, -k, -kH, -kset, -hbr1, -o, -o1, -o2, -x3, -x4, -hx, -ht, -hmay, -kG, -hon, -ha, -gr, -g92, -gr2, -kk, -ho, -hbr, -hb0, -hst] | with_reducible refine IfB_dec (fun h => ?_) (fun h => ?_) | with_reducible refine Guard_dec (fun h => ?_) (fun h => ?_) | with_reducible refine Guard_ndec (fun h => ?_) (fun h => ?_) | with_reducible refine Guard_not (fun h => ?_) (fun h => ?_) | with_reducible refine IfB_ndec (fun h => ?_) (fun h => ?_) | with_reducible refine IfB_not (fun h => ?_) (fun h => ?_) | with_reducible refine Guard_split (fun h => ?_) (fun h => ?_) | with_reducible refine IfB_split (fun h => ?_) (fun h => ?_))
  exact hK _ _ ⟨⟨_, rfl, ho _⟩, kk _ _⟩
theorem refOn_spec (l : List Tk) (i : Int) (hn : l.length ≤ 140737488355328) (hns : ∀ t ∈ l, t.ns.length ≤ 140737488355328) (H : Heap) :
    WC Try.prog 29 [trAv l, .int .i64 i] H fun r H' => r = .tup [trAv (if askE l i = 0 then l.set i.toNat ⟨true, (tkAt l i.toNat).ns⟩ else []), .int .i64 (askE l i)] ∧ H' = H :=
  WC_val fun K hK => (refOn_own l i hn hns H).mono fun r H' ⟨⟨v, e, o⟩, k⟩ => hK r H' (by subst e; exact Thaw.tup_row ⟨Thaw.agg_row ⟨o.thaw, trivial⟩, .int _ _, trivial⟩) k
theorem refOff_spec (l : List Tk) (i : Int) (hn : l.length ≤ 140737488355328) (hns : ∀ t ∈ l, t.ns.length ≤ 140737488355328) (H : Heap) :
    WC Try.prog 30 [trAv l, .int .i64 i] H fun r H' => r = .tup [trAv (if askE l i = 0 then l.set i.toNat ⟨false, []⟩ else []), .int .i64 (askE l i)] ∧ H' = H :=
  WC_val fun K hK => (refOff_own l i hn hns H).mono fun r H' ⟨⟨v, e, o⟩, k⟩ => hK r H' (by subst e; exact Thaw.tup_row ⟨Thaw.agg_row ⟨o.thaw, trivial⟩, .int _ _, trivial⟩) k
theorem refTold_spec (l : List Tk) (i : Int) (hn : l.length ≤ 140737488355328) (hns : ∀ t ∈ l, t.ns.length ≤ 140737488355328) (H : Heap) :
    WC Try.prog 31 [trAv l, .int .i64 i] H fun r H' => r = .tup [nmE.lst (if askE l i = 0 then (tkAt l i.toNat).ns else []), .int .i64 (askE l i)] ∧ H' = H := by
  refine WC_val fun K hK => ?_
  have ask := fun J => refAsked_spec l i hn hns J
  unfold trAv at *
  by_cases ha : askE l i = 0
  rotate_left
  · rw [if_neg ha] at hK
    generalize askE l i = e at *
    refine WC_of_body hT Try.func31 rfl (by simp [Try.f31]) (by simp [Try.f31]) (wx_sound hT _ ?_)
    simp only [Try.f31]
    repeat' (first | simp only [go_sem, Nat.reduceLT, Nat.reduceEqDiff, Nat.reduceAdd, Nat.reduceMul, Nat.reduceSub, Nat.reduceLeDiff, Int.reduceToNat, Int.reduceNeg, Int.reduceLT, Int.reduceLE, Int.reduceEq, reduceCtorEq, Int.natCast_zero, Int.natCast_one, Int.cast_ofNat_Int, Bool.not_not, false_eq_decide, true_eq_decide, hread0, hreadk, read_cons0, read_consk, astore_h0, astore_hk, hget0, hgetk, hset0, hsetk, hlen, hcat, Nat.add_assoc, Nat.add_zero, Nat.zero_add, List.length_append, and_true, true_and, AV.flat, *, -hK, -hns, -ask] | refine WC.call (ask _) ?_ | with_reducible refine IfB_dec (fun h => ?_) (fun h => ?_) | with_reducible refine Guard_dec (fun h => ?_) (fun h => ?_) | with_reducible refine Guard_ndec (fun h => ?_) (fun h => ?_) | with_reducible refine Guard_not (fun h => ?_) (fun h => ?_) | with_reducible refine IfB_ndec (fun h => ?_) (fun h => ?_) | with_reducible refine IfB_not (fun h => ?_) (fun h => ?_) | with_reducible refine Guard_split (fun h => ?_) (fun h => ?_) | with_reducible refine IfB_split (fun h => ?_) (fun h => ?_))
    exact hK _ _ (Thaw.tup_row ⟨.nils, .int _ _, trivial⟩) (Keep.app _ _ _)
  obtain ⟨hmay, hi0, hi1⟩ := askE_ok ha
  obtain ⟨j, rfl⟩ : ∃ j : Nat, i = j := ⟨i.toNat, by omega⟩
  have hj : j < l.length := by omega
  rw [ha, if_pos rfl, Int.toNat_natCast, tkAt_eq hj] at hK
  rw [ha] at ask
  have h16 := (hmay.2.2 _ (List.getElem_mem hj)).1.2
  have e1 := at_enc (E := tkE) (T := T) (k := .i64) se22 hj rfl
  rw [tkE_cells] at e1
  generalize l[j] = t at *
  have src := fun J => src_enc (T := T) (H := J) (E := nmE) (xs := t.ns) tk34
  refine WC_of_body hT Try.func31 rfl (by simp [Try.f31]) (by simp [Try.f31]) (wx_sound hT _ ?_)
  simp only [Try.f31]
  repeat' (first | simp only [go_sem, Nat.reduceLT, Nat.reduceEqDiff, Nat.reduceAdd, Nat.reduceMul, Nat.reduceSub, Nat.reduceLeDiff, Int.reduceToNat, Int.reduceNeg, Int.reduceLT, Int.reduceLE, Int.reduceEq, reduceCtorEq, Int.natCast_zero, Int.natCast_one, Int.cast_ofNat_Int, Bool.not_not, false_eq_decide, true_eq_decide, hread0, hreadk, read_cons0, read_consk, astore_h0, astore_hk, hget0, hgetk, hset0, hsetk, hlen, hcat, Nat.add_assoc, Nat.add_zero, Nat.zero_add, List.length_append, and_true, true_and, AV.flat, *, -hK, -hns, -ask, -hmay, -ha, -src, -h16] | refine WC.call (ask _) ?_ | with_reducible refine IfB_dec (fun h => ?_) (fun h => ?_) | with_reducible refine Guard_dec (fun h => ?_) (fun h => ?_) | with_reducible refine Guard_ndec (fun h => ?_) (fun h => ?_) | with_reducible refine Guard_not (fun h => ?_) (fun h => ?_) | with_reducible refine IfB_ndec (fun h => ?_) (fun h => ?_) | with_reducible refine IfB_not (fun h => ?_) (fun h => ?_) | with_reducible refine Guard_split (fun h => ?_) (fun h => ?_) | with_reducible refine IfB_split (fun h => ?_) (fun h => ?_))
  refine append_enc (E := nmE) (m := H.length) (ys := t.ns) (OwnE.nils nmE H.length _) se34 az38 td38 (src _) (by decide) (by show (0 + t.ns.length) * 50 ≤ _; omega) (by simp) ?_
  intro s J1 os k1 hn1
  rw [List.nil_append] at os
  have hso := os.one
  repeat' (first | simp only [go_sem, Nat.reduceLT, Nat.reduceEqDiff, Nat.reduceAdd, Nat.reduceMul, Nat.reduceSub, Nat.reduceLeDiff, Int.reduceToNat, Int.reduceNeg, Int.reduceLT, Int.reduceLE, Int.reduceEq, reduceCtorEq, Int.natCast_zero, Int.natCast_one, Int.cast_ofNat_Int, Bool.not_not, false_eq_decide, true_eq_decide, hread0, hreadk, read_cons0, read_consk, astore_h0, astore_hk, hget0, hgetk, hset0, hsetk, hlen, hcat, Nat.add_assoc, Nat.add_zero, Nat.zero_add, List.length_append, and_true, true_and, AV.flat, hso, one_solid hso, one_cells hso, *, -hK, -hns, -ask, -hmay, -ha, -src, -h16, -os, -k1, -hn1] | with_reducible refine IfB_dec (fun h => ?_) (fun h => ?_) | with_reducible refine Guard_dec (fun h => ?_) (fun h => ?_) | with_reducible refine Guard_ndec (fun h => ?_) (fun h => ?_) | with_reducible refine Guard_not (fun h => ?_) (fun h => ?_) | with_reducible refine IfB_ndec (fun h => ?_) (fun h => ?_) | with_reducible refine IfB_not (fun h => ?_) (fun h => ?_) | with_reducible refine Guard_split (fun h => ?_) (fun h => ?_) | with_reducible refine IfB_split (fun h => ?_) (fun h => ?_))
  exact hK _ _ (Thaw.tup_row ⟨os.thaw (by decide), .int _ _, trivial⟩) ((Keep.app none H _).trans k1)
theorem without_own (xs : List Nm) (n : Nm) (hn : xs.length ≤ 1000) (H : Heap) : WC Try.prog 50 [nmE.lst xs, n.av] H fun r H' => OwnE nmE H.length H' r (xs.filter fun m => !decide (m = n)) ∧ Keep none H H' := by
  refine WC_of_K fun K hK => ?_
  unfold Nm.av
  refine WC_of_body hT Try.func50 rfl (by simp [Try.f50]) (by simp [Try.f50]) (wx_sound hT _ ?_)
  simp only [Try.f50]
  repeat' (first | simp only [go_sem, Nat.reduceLT, Nat.reduceEqDiff, Nat.reduceAdd, Nat.reduceMul, Nat.reduceSub, Nat.reduceLeDiff, Int.reduceToNat, Int.reduceNeg, Int.reduceLT, Int.reduceLE, Int.reduceEq, reduceCtorEq, Int.natCast_zero, Int.natCast_one, Int.cast_ofNat_Int, Bool.not_not, false_eq_decide, true_eq_decide, hread0, hreadk, read_cons0, read_consk, astore_h0, astore_hk, hget0, hgetk, hset0, hsetk, hlen, hcat, Nat.add_assoc, Nat.add_zero, Nat.zero_add, List.length_append, and_true, true_and, AV.flat, *, -hK] | with_reducible refine IfB_dec (fun h => ?_) (fun h => ?_) | with_reducible refine Guard_dec (fun h => ?_) (fun h => ?_) | with_reducible refine Guard_ndec (fun h => ?_) (fun h => ?_) | with_reducible refine Guard_not (fun h => ?_) (fun h => ?_) | with_reducible refine IfB_ndec (fun h => ?_) (fun h => ?_) | with_reducible refine IfB_not (fun h => ?_) (fun h => ?_) | with_reducible refine Guard_split (fun h => ?_) (fun h => ?_) | with_reducible refine IfB_split (fun h => ?_) (fun h => ?_))
  refine WX_loopS [0, 3] (fun k fr' J => ∃ (i : Nat) (w : AV), k = xs.length - i ∧ i ≤ xs.length ∧ fr'.get 6 = .int .i64 i ∧ fr'.get 5 = w ∧ OwnE nmE H.length J w ((xs.take i).filter fun m => !decide (m = n)) ∧ Keep none H J ∧ H.length + 1 ≤ J.length ∧ J[H.length]? = some (⟨[.int .i64 n.ten, .str n.key], 0, .full⟩ : Blk) ∧ w.blk ≠ some H.length) xs.length ⟨0, .nils, rfl, by omega, by simp only [go_sem, Nat.reduceLT, Nat.reduceEqDiff, Nat.reduceAdd, Nat.reduceMul, Nat.reduceSub, Nat.reduceLeDiff, Int.reduceToNat, Int.reduceNeg, Int.reduceLT, Int.reduceLE, Int.reduceEq, reduceCtorEq]; rfl, by simp only [go_sem, Nat.reduceLT, Nat.reduceEqDiff, Nat.reduceAdd, Nat.reduceMul, Nat.reduceSub, Nat.reduceLeDiff, Int.reduceToNat, Int.reduceNeg, Int.reduceLT, Int.reduceLE, Int.reduceEq, reduceCtorEq], OwnE.nils _ _ _, Keep.app _ _ _, by simp, by simp, by simp [AV.blk]⟩ ?_
  rintro k fr' J A R hA hs hg hR ⟨i, w, rfl, hi, f6, f5, ow, kJ, hJl, gn, hwn⟩
  have s0 := hg 0 (by decide)
  have s3 := hg 3 (by decide)
  simp only [Fr.get_put, Fr.get_init, List.getD_cons_zero, List.getD_cons_succ, Nat.reduceEqDiff, if_true, if_false] at s0 s3
  refine wx_sound hT _ ?_
  have hw := ow.one
  by_cases hlt : i < xs.length
  rotate_left
  · have i1 : ¬ (i : Int) < xs.length := by omega
    have hie : i = xs.length := by omega
    rw [hie, List.take_length] at ow
    repeat' (first | simp only [go_sem, Nat.reduceLT, Nat.reduceEqDiff, Nat.reduceAdd, Nat.reduceMul, Nat.reduceSub, Nat.reduceLeDiff, Int.reduceToNat, Int.reduceNeg, Int.reduceLT, Int.reduceLE, Int.reduceEq, reduceCtorEq, Int.natCast_zero, Int.natCast_one, Int.cast_ofNat_Int, Bool.not_not, false_eq_decide, true_eq_decide, hread0, hreadk, read_cons0, read_consk, astore_h0, astore_hk, hget0, hgetk, hset0, hsetk, hlen, hcat, Nat.add_assoc, Nat.add_zero, Nat.zero_add, List.length_append, and_true, true_and, AV.flat, hw, one_solid hw, one_cells hw, *, -hK, -ow, -kJ, -hJl, -hie, -hwn] | with_reducible refine IfB_dec (fun h => ?_) (fun h => ?_) | with_reducible refine Guard_dec (fun h => ?_) (fun h => ?_) | with_reducible refine Guard_ndec (fun h => ?_) (fun h => ?_) | with_reducible refine Guard_not (fun h => ?_) (fun h => ?_) | with_reducible refine IfB_ndec (fun h => ?_) (fun h => ?_) | with_reducible refine IfB_not (fun h => ?_) (fun h => ?_) | with_reducible refine Guard_split (fun h => ?_) (fun h => ?_) | with_reducible refine IfB_split (fun h => ?_) (fun h => ?_))
    exact hK _ _ ⟨ow, kJ⟩
  have i1 : (i : Int) < xs.length := by omega
  have e3 := inc_id hlt (by omega)
  have e1 := at_enc (E := nmE) (T := T) (k := .i64) se34 hlt rfl
  rw [nmE_cells] at e1
  have hfs : (xs.take (i + 1)).filter (fun m => !decide (m = n)) = (xs.take i).filter (fun m => !decide (m = n)) ++ if xs[i] = n then [] else [xs[i]] := by
    rw [List.take_succ_eq_append_getElem hlt, List.filter_append]; congr 1; by_cases hh : xs[i] = n <;> simp [hh]
  have back : ∀ fr2 J2 w2, A fr2 → fr2.get 6 = .int .i64 ((i + 1 : Nat) : Int) → fr2.get 5 = w2 → OwnE nmE H.length J2 w2 ((xs.take (i + 1)).filter fun m => !decide (m = n)) → Keep none H J2 → H.length + 1 ≤ J2.length → J2[H.length]? = some (⟨[.int .i64 n.ten, .str n.key], 0, .full⟩ : Blk) → w2.blk ≠ some H.length → R fr2 J2 := fun fr2 J2 w2 ha q1 q2 q3 q4 q5 q6 q7 => hR fr2 J2 ha (xs.length - (i + 1)) (by omega) ⟨i + 1, w2, rfl, by omega, q1, q2, q3, q4, q5, q6, q7⟩
  rw [hfs] at back
  have hfl := List.length_filter_le (fun m => !decide (m = n)) (xs.take i)
  rw [List.length_take] at hfl
  clear hR hfs
  generalize hx : xs[i] = x at *
  by_cases hh : x = n
  · rw [if_pos hh, List.append_nil] at back
    have h1 : x.ten = n.ten := by rw [hh]
    have h2 : x.key = n.key := by rw [hh]
    rw [h1, h2] at e1
    repeat' (first | simp only [go_sem, Nat.reduceLT, Nat.reduceEqDiff, Nat.reduceAdd, Nat.reduceMul, Nat.reduceSub, Nat.reduceLeDiff, Int.reduceToNat, Int.reduceNeg, Int.reduceLT, Int.reduceLE, Int.reduceEq, reduceCtorEq, Int.natCast_zero, Int.natCast_one, Int.cast_ofNat_Int, Bool.not_not, false_eq_decide, true_eq_decide, hread0, hreadk, read_cons0, read_consk, astore_h0, astore_hk, hget0, hgetk, hset0, hsetk, hlen, hcat, Nat.add_assoc, Nat.add_zero, Nat.zero_add, List.length_append, and_true, true_and, AV.flat, gn, get_app gn, read_get gn, read_app gn, hw, one_solid hw, one_cells hw, *, -hK, -ow, -kJ, -back, -hfl, -hx, -hJl, -hwn, -hh, -h1, -h2] | with_reducible refine IfB_dec (fun h => ?_) (fun h => ?_) | with_reducible refine Guard_dec (fun h => ?_) (fun h => ?_) | with_reducible refine Guard_ndec (fun h => ?_) (fun h => ?_) | with_reducible refine Guard_not (fun h => ?_) (fun h => ?_) | with_reducible refine IfB_ndec (fun h => ?_) (fun h => ?_) | with_reducible refine IfB_not (fun h => ?_) (fun h => ?_) | with_reducible refine Guard_split (fun h => ?_) (fun h => ?_) | with_reducible refine IfB_split (fun h => ?_) (fun h => ?_))
    refine WX_rows hT hmix [(0, none), (1, none), (2, none), (3, none), (4, none), (5, none)] (by kernel_rfl) ?_
    repeat' (first | simp only [go_sem, Nat.reduceLT, Nat.reduceEqDiff, Nat.reduceAdd, Nat.reduceMul, Nat.reduceSub, Nat.reduceLeDiff, Int.reduceToNat, Int.reduceNeg, Int.reduceLT, Int.reduceLE, Int.reduceEq, reduceCtorEq, Int.natCast_zero, Int.natCast_one, Int.cast_ofNat_Int, Bool.not_not, false_eq_decide, true_eq_decide, hread0, hreadk, read_cons0, read_consk, astore_h0, astore_hk, hget0, hgetk, hset0, hsetk, hlen, hcat, Nat.add_assoc, Nat.add_zero, Nat.zero_add, List.length_append, and_true, true_and, AV.flat, gn, get_app gn, read_get gn, read_app gn, hw, one_solid hw, one_cells hw, *, -hK, -ow, -kJ, -back, -hfl, -hx, -hJl, -hwn, -hh, -h1, -h2] | with_reducible refine IfB_dec (fun h => ?_) (fun h => ?_) | with_reducible refine Guard_dec (fun h => ?_) (fun h => ?_) | with_reducible refine Guard_ndec (fun h => ?_) (fun h => ?_) | with_reducible refine Guard_not (fun h => ?_) (fun h => ?_) | with_reducible refine IfB_ndec (fun h => ?_) (fun h => ?_) | with_reducible refine IfB_not (fun h => ?_) (fun h => ?_) | with_reducible refine Guard_split (fun h => ?_) (fun h => ?_) | with_reducible refine IfB_split (fun h => ?_) (fun h => ?_))
    exact back _ _ _ (by (repeat (first | exact hs | refine hA _ _ _ (by decide) ?_))) (by simp only [go_sem, Nat.reduceLT, Nat.reduceEqDiff, Nat.reduceAdd, Nat.reduceMul, Nat.reduceSub, Nat.reduceLeDiff, Int.reduceToNat, Int.reduceNeg, Int.reduceLT, Int.reduceLE, Int.reduceEq, reduceCtorEq]) rfl (by simp only [go_sem, Nat.reduceLT, Nat.reduceEqDiff, Nat.reduceAdd, Nat.reduceMul, Nat.reduceSub, Nat.reduceLeDiff, Int.reduceToNat, Int.reduceNeg, Int.reduceLT, Int.reduceLE, Int.reduceEq, reduceCtorEq]; rw [f5]; exact ow) kJ hJl gn (by simp only [go_sem, Nat.reduceLT, Nat.reduceEqDiff, Nat.reduceAdd, Nat.reduceMul, Nat.reduceSub, Nat.reduceLeDiff, Int.reduceToNat, Int.reduceNeg, Int.reduceLT, Int.reduceLE, Int.reduceEq, reduceCtorEq]; rw [f5]; exact hwn)
  · rw [if_neg hh] at back
    have hnn := (not_congr (nm_eq x n)).1 hh
    clear hh hx
    obtain ⟨xt, xk⟩ := x
    obtain ⟨nt, nk⟩ := n
    simp only at e1 gn hnn
    by_cases h1 : xt = nt
    · have h2 : ¬ xk = nk := fun h => hnn ⟨h1, h⟩
      clear hnn
      subst h1
      repeat' (first | simp only [go_sem, Nat.reduceLT, Nat.reduceEqDiff, Nat.reduceAdd, Nat.reduceMul, Nat.reduceSub, Nat.reduceLeDiff, Int.reduceToNat, Int.reduceNeg, Int.reduceLT, Int.reduceLE, Int.reduceEq, reduceCtorEq, Int.natCast_zero, Int.natCast_one, Int.cast_ofNat_Int, Bool.not_not, false_eq_decide, true_eq_decide, hread0, hreadk, read_cons0, read_consk, astore_h0, astore_hk, hget0, hgetk, hset0, hsetk, hlen, hcat, Nat.add_assoc, Nat.add_zero, Nat.zero_add, List.length_append, and_true, true_and, AV.flat, gn, get_app gn, read_get gn, read_app gn, hw, one_solid hw, one_cells hw, *, -hK, -ow, -kJ, -back, -hfl, -hJl, -hwn] | with_reducible refine IfB_dec (fun h => ?_) (fun h => ?_) | with_reducible refine Guard_dec (fun h => ?_) (fun h => ?_) | with_reducible refine Guard_ndec (fun h => ?_) (fun h => ?_) | with_reducible refine Guard_not (fun h => ?_) (fun h => ?_) | with_reducible refine IfB_ndec (fun h => ?_) (fun h => ?_) | with_reducible refine IfB_not (fun h => ?_) (fun h => ?_) | with_reducible refine Guard_split (fun h => ?_) (fun h => ?_) | with_reducible refine IfB_split (fun h => ?_) (fun h => ?_))
      refine WX_rows hT hmix [(0, none), (1, none), (2, none), (3, none), (4, none), (5, none)] (by kernel_rfl) ?_
      repeat' (first | simp only [go_sem, Nat.reduceLT, Nat.reduceEqDiff, Nat.reduceAdd, Nat.reduceMul, Nat.reduceSub, Nat.reduceLeDiff, Int.reduceToNat, Int.reduceNeg, Int.reduceLT, Int.reduceLE, Int.reduceEq, reduceCtorEq, Int.natCast_zero, Int.natCast_one, Int.cast_ofNat_Int, Bool.not_not, false_eq_decide, true_eq_decide, hread0, hreadk, read_cons0, read_consk, astore_h0, astore_hk, hget0, hgetk, hset0, hsetk, hlen, hcat, Nat.add_assoc, Nat.add_zero, Nat.zero_add, List.length_append, and_true, true_and, AV.flat, gn, get_app gn, read_get gn, read_app gn, hw, one_solid hw, one_cells hw, *, -hK, -ow, -kJ, -back, -hfl, -hJl, -hwn] | with_reducible refine IfB_dec (fun h => ?_) (fun h => ?_) | with_reducible refine Guard_dec (fun h => ?_) (fun h => ?_) | with_reducible refine Guard_ndec (fun h => ?_) (fun h => ?_) | with_reducible refine Guard_not (fun h => ?_) (fun h => ?_) | with_reducible refine IfB_ndec (fun h => ?_) (fun h => ?_) | with_reducible refine IfB_not (fun h => ?_) (fun h => ?_) | with_reducible refine Guard_split (fun h => ?_) (fun h => ?_) | with_reducible refine IfB_split (fun h => ?_) (fun h => ?_))
      refine append1_enc (E := nmE) (x := ⟨xt, xk⟩) ow rfl se34 az38 td38 tk34 rfl rfl (by decide) (by show (_ + 1) * 50 ≤ _; omega) (by omega) ?_
      intro v5 H5 o5 k5 hn5
      have hv5 := o5.one
      repeat' (first | simp only [go_sem, Nat.reduceLT, Nat.reduceEqDiff, Nat.reduceAdd, Nat.reduceMul, Nat.reduceSub, Nat.reduceLeDiff, Int.reduceToNat, Int.reduceNeg, Int.reduceLT, Int.reduceLE, Int.reduceEq, reduceCtorEq, Int.natCast_zero, Int.natCast_one, Int.cast_ofNat_Int, Bool.not_not, false_eq_decide, true_eq_decide, hread0, hreadk, read_cons0, read_consk, astore_h0, astore_hk, hget0, hgetk, hset0, hsetk, hlen, hcat, Nat.add_assoc, Nat.add_zero, Nat.zero_add, List.length_append, and_true, true_and, AV.flat, hv5, one_solid hv5, one_cells hv5, *, -hK, -ow, -kJ, -back, -hfl, -hJl, -hwn, -o5, -k5, -hn5, -gn] | with_reducible refine IfB_dec (fun h => ?_) (fun h => ?_) | with_reducible refine Guard_dec (fun h => ?_) (fun h => ?_) | with_reducible refine Guard_ndec (fun h => ?_) (fun h => ?_) | with_reducible refine Guard_not (fun h => ?_) (fun h => ?_) | with_reducible refine IfB_ndec (fun h => ?_) (fun h => ?_) | with_reducible refine IfB_not (fun h => ?_) (fun h => ?_) | with_reducible refine Guard_split (fun h => ?_) (fun h => ?_) | with_reducible refine IfB_split (fun h => ?_) (fun h => ?_))
      exact back _ _ _ (by (repeat (first | exact hs | refine hA _ _ _ (by decide) ?_))) (by simp only [go_sem, Nat.reduceLT, Nat.reduceEqDiff, Nat.reduceAdd, Nat.reduceMul, Nat.reduceSub, Nat.reduceLeDiff, Int.reduceToNat, Int.reduceNeg, Int.reduceLT, Int.reduceLE, Int.reduceEq, reduceCtorEq]) rfl (by simp only [go_sem, Nat.reduceLT, Nat.reduceEqDiff, Nat.reduceAdd, Nat.reduceMul, Nat.reduceSub, Nat.reduceLeDiff, Int.reduceToNat, Int.reduceNeg, Int.reduceLT, Int.reduceLE, Int.reduceEq, reduceCtorEq]; exact o5) (kJ.via k5 (fun b hb => ow.ge hb)) (Nat.le_trans hJl k5.len) (k5.get gn hwn) (by simp only [go_sem, Nat.reduceLT, Nat.reduceEqDiff, Nat.reduceAdd, Nat.reduceMul, Nat.reduceSub, Nat.reduceLeDiff, Int.reduceToNat, Int.reduceNeg, Int.reduceLT, Int.reduceLE, Int.reduceEq, reduceCtorEq]; exact fun e => by rcases hn5 _ e with h | h; exact hwn h; omega)
    · clear hnn
      repeat' (first | simp only [go_sem, Nat.reduceLT, Nat.reduceEqDiff, Nat.reduceAdd, Nat.reduceMul, Nat.reduceSub, Nat.reduceLeDiff, Int.reduceToNat, Int.reduceNeg, Int.reduceLT, Int.reduceLE, Int.reduceEq, reduceCtorEq, Int.natCast_zero, Int.natCast_one, Int.cast_ofNat_Int, Bool.not_not, false_eq_decide, true_eq_decide, hread0, hreadk, read_cons0, read_consk, astore_h0, astore_hk, hget0, hgetk, hset0, hsetk, hlen, hcat, Nat.add_assoc, Nat.add_zero, Nat.zero_add, List.length_append, and_true, true_and, AV.flat, gn, get_app gn, read_get gn, read_app gn, hw, one_solid hw, one_cells hw, *, -hK, -ow, -kJ, -back, -hfl, -hJl, -hwn] | with_reducible refine IfB_dec (fun h => ?_) (fun h => ?_) | with_reducible refine Guard_dec (fun h => ?_) (fun h => ?_) | with_reducible refine Guard_ndec (fun h => ?_) (fun h => ?_) | with_reducible refine Guard_not (fun h => ?_) (fun h => ?_) | with_reducible refine IfB_ndec (fun h => ?_) (fun h => ?_) | with_reducible refine IfB_not (fun h => ?_) (fun h => ?_) | with_reducible refine Guard_split (fun h => ?_) (fun h => ?_) | with_reducible refine IfB_split (fun h => ?_) (fun h => ?_))
      refine WX_rows hT hmix [(0, none), (1, none), (2, none), (3, none), (4, none), (5, none)] (by kernel_rfl) ?_
      repeat' (first | simp only [go_sem, Nat.reduceLT, Nat.reduceEqDiff, Nat.reduceAdd, Nat.reduceMul, Nat.reduceSub, Nat.reduceLeDiff, Int.reduceToNat, Int.reduceNeg, Int.reduceLT, Int.reduceLE, Int.reduceEq, reduceCtorEq, Int.natCast_zero, Int.natCast_one, Int.cast_ofNat_Int, Bool.not_not, false_eq_decide, true_eq_decide, hread0, hreadk, read_cons0, read_consk, astore_h0, astore_hk, hget0, hgetk, hset0, hsetk, hlen, hcat, Nat.add_assoc, Nat.add_zero, Nat.zero_add, List.length_append, and_true, true_and, AV.flat, gn, get_app gn, read_get gn, read_app gn, hw, one_solid hw, one_cells hw, *, -hK, -ow, -kJ, -back, -hfl, -hJl, -hwn] | with_reducible refine IfB_dec (fun h => ?_) (fun h => ?_) | with_reducible refine Guard_dec (fun h => ?_) (fun h => ?_) | with_reducible refine Guard_ndec (fun h => ?_) (fun h => ?_) | with_reducible refine Guard_not (fun h => ?_) (fun h => ?_) | with_reducible refine IfB_ndec (fun h => ?_) (fun h => ?_) | with_reducible refine IfB_not (fun h => ?_) (fun h => ?_) | with_reducible refine Guard_split (fun h => ?_) (fun h => ?_) | with_reducible refine IfB_split (fun h => ?_) (fun h => ?_))
      refine append1_enc (E := nmE) (x := ⟨xt, xk⟩) ow rfl se34 az38 td38 tk34 rfl rfl (by decide) (by show (_ + 1) * 50 ≤ _; omega) (by omega) ?_
      intro v5 H5 o5 k5 hn5
      have hv5 := o5.one
      repeat' (first | simp only [go_sem, Nat.reduceLT, Nat.reduceEqDiff, Nat.reduceAdd, Nat.reduceMul, Nat.reduceSub, Nat.reduceLeDiff, Int.reduceToNat, Int.reduceNeg, Int.reduceLT, Int.reduceLE, Int.reduceEq, reduceCtorEq, Int.natCast_zero, Int.natCast_one, Int.cast_ofNat_Int, Bool.not_not, false_eq_decide, true_eq_decide, hread0, hreadk, read_cons0, read_consk, astore_h0, astore_hk, hget0, hgetk, hset0, hsetk, hlen, hcat, Nat.add_assoc, Nat.add_zero, Nat.zero_add, List.length_append, and_true, true_and, AV.flat, hv5, one_solid hv5, one_cells hv5, *, -hK, -ow, -kJ, -back, -hfl, -hJl, -hwn, -o5, -k5, -hn5, -gn] | with_reducible refine IfB_dec (fun h => ?_) (fun h => ?_) | with_reducible refine Guard_dec (fun h => ?_) (fun h => ?_) | with_reducible refine Guard_ndec (fun h => ?_) (fun h => ?_) | with_reducible refine Guard_not (fun h => ?_) (fun h => ?_) | with_reducible refine IfB_ndec (fun h => ?_) (fun h => ?_) | with_reducible refine IfB_not (fun h => ?_) (fun h => ?_) | with_reducible refine Guard_split (fun h => ?_) (fun h => ?_) | with_reducible refine IfB_split (fun h => ?_) (fun h => ?_))
      exact back _ _ _ (by (repeat (first | exact hs | refine hA _ _ _ (by decide) ?_))) (by simp only [go_sem, Nat.reduceLT, Nat.reduceEqDiff, Nat.reduceAdd, Nat.reduceMul, Nat.reduceSub, Nat.reduceLeDiff, Int.reduceToNat, Int.reduceNeg, Int.reduceLT, Int.reduceLE, Int.reduceEq, reduceCtorEq]) rfl (by simp only [go_sem, Nat.reduceLT, Nat.reduceEqDiff, Nat.reduceAdd, Nat.reduceMul, Nat.reduceSub, Nat.reduceLeDiff, Int.reduceToNat, Int.reduceNeg, Int.reduceLT, Int.reduceLE, Int.reduceEq, reduceCtorEq]; exact o5) (kJ.via k5 (fun b hb => ow.ge hb)) (Nat.le_trans hJl k5.len) (k5.get gn hwn) (by simp only [go_sem, Nat.reduceLT, Nat.reduceEqDiff, Nat.reduceAdd, Nat.reduceMul, Nat.reduceSub, Nat.reduceLeDiff, Int.reduceToNat, Int.reduceNeg, Int.reduceLT, Int.reduceLE, Int.reduceEq, reduceCtorEq]; exact fun e => by rcases hn5 _ e with h | h; exact hwn h; omega)
end Go.Proofs.Ytccfhighlpfdmaa

