import Derived.Test.YtccfhighlpfdmaaTrkC2
set_option linter.unusedSimpArgs false
set_option linter.unusedVariables false
set_option maxRecDepth 100000
set_option maxHeartbeats 4000000
namespace Go.Proofs.Ytccfhighlpfdmaa
open Go Go.Proofs Go.Proofs.PI
/-! ### New, On, Off, Told -/
def trNew (n : Int) : List Tk × Int := if 1 ≤ n ∧ n ≤ 8 then (List.replicate n.toNat ⟨false, []⟩, 0) else ([], 2)
theorem row_zero (n : Nat) : tkE.row (List.replicate n ⟨false, []⟩) = reps n [.bool false, .lst 0 []] := by
  induction n with
  | zero => rfl
  | succ n ih => rw [List.replicate_succ, Enc.row_cons, ih]; unfold reps; rw [List.replicate_succ, List.flatten_cons]; rfl
theorem thaw_zero {m : Nat} {H : Heap} {b n sz : Nat} {st : St} (hb : H[b]? = some ⟨reps n [.bool false, .nils], sz, st⟩) (hst : st.own = true) (hm : m ≤ b) : Thaw m H (.sl b 0 n none) (tkE.lst (List.replicate n ⟨false, []⟩)) := by
  have hr : (tkE.row (List.replicate n ⟨false, []⟩)).length = n * 2 := by rw [Enc.row_length, List.length_replicate]; rfl
  refine (show tkE.lst (List.replicate n ⟨false, []⟩) = .lst n (tkE.row (List.replicate n ⟨false, []⟩)) by unfold Enc.lst; rw [List.length_replicate]) ▸ Thaw.sl b 0 n none _ _ hm hb hst ?_ fun i a c ha hc => ?_
  · rw [hr, reps_length]; simp
  · rw [Nat.zero_add] at ha
    have hi : i < n * 2 := by rw [← hr]; exact (List.getElem?_eq_some_iff.1 hc).1
    rw [row_zero] at hc
    rw [reps_get _ _ _ (by simpa using hi)] at ha hc
    have h2 : i % 2 = 0 ∨ i % 2 = 1 := Nat.mod_two_eq_zero_or_one i
    simp only [List.length_cons, List.length_nil] at ha hc
    rcases h2 with h2 | h2
    · rw [h2] at ha hc; cases ha; cases hc; exact .atom _ rfl
    · rw [h2] at ha hc; cases ha; cases hc; exact .nils
theorem new_spec (n : Int) (H : Heap) : WC Try.prog 23 [.int .i64 n] H fun r H' => r = .tup [trAv (trNew n).1, .int .i64 (trNew n).2] ∧ H' = H := by
  refine WC_val fun K hK => ?_
  unfold trAv at hK
  by_cases h : 1 ≤ n ∧ n ≤ 8
  rotate_left
  · rw [show trNew n = ([], 2) by unfold trNew; rw [if_neg h]] at hK
    by_cases h1 : n < 1
    · skip
      refine WC_of_body hT Try.func23 rfl (by simp [Try.f23]) (by simp [Try.f23]) (wx_sound hT _ ?_)
      simp only [Try.f23]
      repeat' (first | simp only [go_sem, Nat.reduceLT, Nat.reduceEqDiff, Nat.reduceAdd, Nat.reduceMul, Nat.reduceSub, Nat.reduceLeDiff, Int.reduceToNat, Int.reduceNeg, Int.reduceLT, Int.reduceLE, Int.reduceEq, reduceCtorEq, Int.natCast_zero, Int.natCast_one, Int.cast_ofNat_Int, Bool.not_not, false_eq_decide, true_eq_decide, hread0, hreadk, read_cons0, read_consk, astore_h0, astore_hk, hget0, hgetk, hset0, hsetk, hlen, hcat, Nat.add_assoc, Nat.add_zero, Nat.zero_add, List.length_append, and_true, true_and, AV.flat, *, -hK, -h] | with_reducible refine IfB_dec (fun h => ?_) (fun h => ?_) | with_reducible refine Guard_dec (fun h => ?_) (fun h => ?_) | with_reducible refine Guard_ndec (fun h => ?_) (fun h => ?_) | with_reducible refine Guard_not (fun h => ?_) (fun h => ?_) | with_reducible refine IfB_ndec (fun h => ?_) (fun h => ?_) | with_reducible refine IfB_not (fun h => ?_) (fun h => ?_) | with_reducible refine Guard_split (fun h => ?_) (fun h => ?_) | with_reducible refine IfB_split (fun h => ?_) (fun h => ?_))
      exact hK _ _ (Thaw.tup_row ⟨Thaw.agg_row ⟨.nils, trivial⟩, .int _ _, trivial⟩) (Keep.app _ _ _)
    · have h2 : n > 8 := by omega
      refine WC_of_body hT Try.func23 rfl (by simp [Try.f23]) (by simp [Try.f23]) (wx_sound hT _ ?_)
      simp only [Try.f23]
      repeat' (first | simp only [go_sem, Nat.reduceLT, Nat.reduceEqDiff, Nat.reduceAdd, Nat.reduceMul, Nat.reduceSub, Nat.reduceLeDiff, Int.reduceToNat, Int.reduceNeg, Int.reduceLT, Int.reduceLE, Int.reduceEq, reduceCtorEq, Int.natCast_zero, Int.natCast_one, Int.cast_ofNat_Int, Bool.not_not, false_eq_decide, true_eq_decide, hread0, hreadk, read_cons0, read_consk, astore_h0, astore_hk, hget0, hgetk, hset0, hsetk, hlen, hcat, Nat.add_assoc, Nat.add_zero, Nat.zero_add, List.length_append, and_true, true_and, AV.flat, *, -hK, -h] | with_reducible refine IfB_dec (fun h => ?_) (fun h => ?_) | with_reducible refine Guard_dec (fun h => ?_) (fun h => ?_) | with_reducible refine Guard_ndec (fun h => ?_) (fun h => ?_) | with_reducible refine Guard_not (fun h => ?_) (fun h => ?_) | with_reducible refine IfB_ndec (fun h => ?_) (fun h => ?_) | with_reducible refine IfB_not (fun h => ?_) (fun h => ?_) | with_reducible refine Guard_split (fun h => ?_) (fun h => ?_) | with_reducible refine IfB_split (fun h => ?_) (fun h => ?_))
      exact hK _ _ (Thaw.tup_row ⟨Thaw.agg_row ⟨.nils, trivial⟩, .int _ _, trivial⟩) (Keep.app _ _ _)
  rw [show trNew n = (List.replicate n.toNat ⟨false, []⟩, 0) by unfold trNew; rw [if_pos h]] at hK
  obtain ⟨j, rfl⟩ : ∃ j : Nat, n = j := ⟨n.toNat, by omega⟩
  have h1 : ¬ (j : Int) < 1 := by omega
  have h2 : ¬ (j : Int) > 8 := by omega
  rw [Int.toNat_natCast] at hK
  have hc : (0 : Int) ≤ j ∧ (j : Int) ≤ j ∧ (j : Int) ≤ 140737488355328 ∧ 32 * (j : Int) ≤ 140737488355328 := by omega
  have hj : (j : Int).toNat = j := Int.toNat_natCast j
  refine WC_of_body hT Try.func23 rfl (by simp [Try.f23]) (by simp [Try.f23]) (wx_sound hT _ ?_)
  simp only [Try.f23]
  repeat' (first | simp only [go_sem, Nat.reduceLT, Nat.reduceEqDiff, Nat.reduceAdd, Nat.reduceMul, Nat.reduceSub, Nat.reduceLeDiff, Int.reduceToNat, Int.reduceNeg, Int.reduceLT, Int.reduceLE, Int.reduceEq, reduceCtorEq, Int.natCast_zero, Int.natCast_one, Int.cast_ofNat_Int, Bool.not_not, false_eq_decide, true_eq_decide, hread0, hreadk, read_cons0, read_consk, astore_h0, astore_hk, hget0, hgetk, hset0, hsetk, hlen, hcat, Nat.add_assoc, Nat.add_zero, Nat.zero_add, List.length_append, and_true, true_and, AV.flat, *, -hK, -h, -hc, -hj] | with_reducible refine IfB_dec (fun h => ?_) (fun h => ?_) | with_reducible refine Guard_dec (fun h => ?_) (fun h => ?_) | with_reducible refine Guard_ndec (fun h => ?_) (fun h => ?_) | with_reducible refine Guard_not (fun h => ?_) (fun h => ?_) | with_reducible refine IfB_ndec (fun h => ?_) (fun h => ?_) | with_reducible refine IfB_not (fun h => ?_) (fun h => ?_) | with_reducible refine Guard_split (fun h => ?_) (fun h => ?_) | with_reducible refine IfB_split (fun h => ?_) (fun h => ?_))
  rw [if_pos hc]
  simp only [hj]
  repeat' (first | simp only [go_sem, Nat.reduceLT, Nat.reduceEqDiff, Nat.reduceAdd, Nat.reduceMul, Nat.reduceSub, Nat.reduceLeDiff, Int.reduceToNat, Int.reduceNeg, Int.reduceLT, Int.reduceLE, Int.reduceEq, reduceCtorEq, Int.natCast_zero, Int.natCast_one, Int.cast_ofNat_Int, Bool.not_not, false_eq_decide, true_eq_decide, hread0, hreadk, read_cons0, read_consk, astore_h0, astore_hk, hget0, hgetk, hset0, hsetk, hlen, hcat, Nat.add_assoc, Nat.add_zero, Nat.zero_add, List.length_append, and_true, true_and, AV.flat, *, -hK, -h, -hc, -hj] | with_reducible refine IfB_dec (fun h => ?_) (fun h => ?_) | with_reducible refine Guard_dec (fun h => ?_) (fun h => ?_) | with_reducible refine Guard_ndec (fun h => ?_) (fun h => ?_) | with_reducible refine Guard_not (fun h => ?_) (fun h => ?_) | with_reducible refine IfB_ndec (fun h => ?_) (fun h => ?_) | with_reducible refine IfB_not (fun h => ?_) (fun h => ?_) | with_reducible refine Guard_split (fun h => ?_) (fun h => ?_) | with_reducible refine IfB_split (fun h => ?_) (fun h => ?_))
  exact hK _ _ (Thaw.tup_row ⟨Thaw.agg_row ⟨thaw_zero (b := H.length + 1) (sz := 2) (st := .full) (by simp; rfl) rfl (by omega), trivial⟩, .int _ _, trivial⟩) (Keep.app _ _ _)
theorem on_own (l : List Tk) (i : Int) (hn : l.length ≤ 140737488355328) (hns : ∀ t ∈ l, t.ns.length ≤ 140737488355328) (H : Heap) :
    WC Try.prog 22 [trAv l, .int .i64 i] H fun r H' => (∃ v, r = .tup [.agg [v], .int .i64 (askE l i)] ∧ TrOut H.length H' v (if askE l i = 0 then l.set i.toNat ⟨true, (tkAt l i.toNat).ns⟩ else [])) ∧ Keep none H H' := by
  refine WC_of_K fun K hK => ?_
  have ask := fun J => asked_own l i hn hns J
  unfold trAv at *
  refine WC_of_body hT Try.func22 rfl (by simp [Try.f22]) (by simp [Try.f22]) (wx_sound hT _ ?_)
  simp only [Try.f22]
  repeat' (first | simp only [go_sem, Nat.reduceLT, Nat.reduceEqDiff, Nat.reduceAdd, Nat.reduceMul, Nat.reduceSub, Nat.reduceLeDiff, Int.reduceToNat, Int.reduceNeg, Int.reduceLT, Int.reduceLE, Int.reduceEq, reduceCtorEq, Int.natCast_zero, Int.natCast_one, Int.cast_ofNat_Int, Bool.not_not, false_eq_decide, true_eq_decide, hread0, hreadk, read_cons0, read_consk, astore_h0, astore_hk, hget0, hgetk, hset0, hsetk, hlen, hcat, Nat.add_assoc, Nat.add_zero, Nat.zero_add, List.length_append, and_true, true_and, AV.flat, *, -hK, -hns, -ask] | with_reducible refine IfB_dec (fun h => ?_) (fun h => ?_) | with_reducible refine Guard_dec (fun h => ?_) (fun h => ?_) | with_reducible refine Guard_ndec (fun h => ?_) (fun h => ?_) | with_reducible refine Guard_not (fun h => ?_) (fun h => ?_) | with_reducible refine IfB_ndec (fun h => ?_) (fun h => ?_) | with_reducible refine IfB_not (fun h => ?_) (fun h => ?_) | with_reducible refine Guard_split (fun h => ?_) (fun h => ?_) | with_reducible refine IfB_split (fun h => ?_) (fun h => ?_))
  refine (ask _).mono ?_
  rintro r H1 ⟨hc, k⟩
  clear ask
  have hb0 := k.get (b := H.length) (B := ⟨[tkE.lst l], 0, .full⟩) (by rw [hget0]; rfl) (by simp)
  have hbr := k.get (b := H.length + 1) (B := ⟨[.nils], 0, .full⟩) (by rw [hgetk]; rfl) (by simp)
  have kH : Keep none H H1 := (Keep.app none H _).trans k
  have hl1 : H.length + 2 ≤ H1.length := by have := k.len; simpa using this
  have kset : ∀ B C, Keep none H (List.set (H1 ++ [B] : Heap) (H.length + 1) C) := fun B C => ⟨by simp; omega, fun b hb _ => by rw [List.getElem?_set_ne (by omega), List.getElem?_append_left (by omega)]; exact kH.at_ b hb (by simp)⟩
  have hbr1 : ∀ B : Blk, (H1 ++ [B] : Heap)[H.length + 1]? = some ⟨[.nils], 0, .full⟩ := fun B => by rw [List.getElem?_append_left (by omega)]; exact hbr
  rcases hc with ⟨ha, p, ps, rfl, o⟩ | ⟨ha, rfl⟩
  rotate_left
  · rw [if_neg ha] at hK
    generalize askE l i = e at *
    have hr1 := hbr1 ⟨[.nils], 0, .full⟩
    repeat' (first | simp only [go_sem, Nat.reduceLT, Nat.reduceEqDiff, Nat.reduceAdd, Nat.reduceMul, Nat.reduceSub, Nat.reduceLeDiff, Int.reduceToNat, Int.reduceNeg, Int.reduceLT, Int.reduceLE, Int.reduceEq, reduceCtorEq, Int.natCast_zero, Int.natCast_one, Int.cast_ofNat_Int, Bool.not_not, false_eq_decide, true_eq_decide, hread0, hreadk, read_cons0, read_consk, astore_h0, astore_hk, hget0, hgetk, hset0, hsetk, hlen, hcat, Nat.add_assoc, Nat.add_zero, Nat.zero_add, List.length_append, and_true, true_and, AV.flat, hr1, get_app hr1, read_get hr1, read_app hr1, astore_get hr1, astore_app hr1, get_set hr1, get_set_app hr1, read_set hr1, read_set_app hr1, astore_set hr1, astore_set_app hr1, List.set_set, hget0s, hgetks, hread0s, hreadks, List.length_set, *, -hK, -hns, -hbr1, -kset, -k, -kH] | with_reducible refine IfB_dec (fun h => ?_) (fun h => ?_) | with_reducible refine Guard_dec (fun h => ?_) (fun h => ?_) | with_reducible refine Guard_ndec (fun h => ?_) (fun h => ?_) | with_reducible refine Guard_not (fun h => ?_) (fun h => ?_) | with_reducible refine IfB_ndec (fun h => ?_) (fun h => ?_) | with_reducible refine IfB_not (fun h => ?_) (fun h => ?_) | with_reducible refine Guard_split (fun h => ?_) (fun h => ?_) | with_reducible refine IfB_split (fun h => ?_) (fun h => ?_))
    exact hK _ _ ⟨⟨_, rfl, .inl ⟨rfl, rfl⟩⟩, kset _ _⟩
  obtain ⟨hmay, hi0, hi1⟩ := askE_ok ha
  obtain ⟨j, rfl⟩ : ∃ j : Nat, i = j := ⟨i.toNat, by omega⟩
  have hj : j < l.length := by omega
  rw [ha, if_pos rfl, Int.toNat_natCast, tkAt_eq hj] at hK
  obtain ⟨x, hx, ht, hon⟩ := o.get hj
  have o1 := (o.moved (Keep.app none H1 [(⟨[.sl p 0 l.length none], 0, .full⟩ : Blk)])).weaken (m2 := H.length + 2) (by simp)
  obtain ⟨-, -, x3, x4⟩ := o1.el j x _ hx ht
  replace x3 := x3 hj
  have e1 := TkO.addr (T' := T) (p := p) se22 hj
  have hpl := o.lt
  have hpg := o1.ge
  obtain ⟨st, rest, hst, w1⟩ := o1.storeOn (T' := T) hx rfl (te := 4) (by simp only [asize, td4, Option.map_some]) true
  have o2 := o1.upd' (y := (.bool true, x.2)) (t2 := ⟨true, l[j].ns⟩) (k2 := l.length) hx ht (.inl ⟨rfl, hj⟩) (Keep.refl _ _) rfl x3 (fun b hb => .inl hb) rest st hst
  have gr := hbr1 ⟨[.sl p 0 l.length none], 0, .full⟩
  have g9 : (H1 ++ [(⟨[.sl p 0 l.length none], 0, .full⟩ : Blk)] : Heap)[H1.length]? = some ⟨[.sl p 0 l.length none], 0, .full⟩ := by simp
  have hGl : (H1 ++ [(⟨[.sl p 0 l.length none], 0, .full⟩ : Blk)] : Heap).length = H1.length + 1 := by simp
  have kG := kH.trans (Keep.app none H1 [(⟨[.sl p 0 l.length none], 0, .full⟩ : Blk)])
  repeat' (first | simp only [go_sem, Nat.reduceLT, Nat.reduceEqDiff, Nat.reduceAdd, Nat.reduceMul, Nat.reduceSub, Nat.reduceLeDiff, Int.reduceToNat, Int.reduceNeg, Int.reduceLT, Int.reduceLE, Int.reduceEq, reduceCtorEq, Int.natCast_zero, Int.natCast_one, Int.cast_ofNat_Int, Bool.not_not, false_eq_decide, true_eq_decide, hread0, hreadk, read_cons0, read_consk, astore_h0, astore_hk, hget0, hgetk, hset0, hsetk, hlen, hcat, Nat.add_assoc, Nat.add_zero, Nat.zero_add, List.length_append, and_true, true_and, AV.flat, *, -hK, -hns, -k, -kH, -kset, -hbr1, -o, -o1, -o2, -x3, -x4, -hx, -ht, -hmay, -kG, -hon, -ha, -gr, -g9, -w1, -hbr, -hb0] | with_reducible refine IfB_dec (fun h => ?_) (fun h => ?_) | with_reducible refine Guard_dec (fun h => ?_) (fun h => ?_) | with_reducible refine Guard_ndec (fun h => ?_) (fun h => ?_) | with_reducible refine Guard_not (fun h => ?_) (fun h => ?_) | with_reducible refine IfB_ndec (fun h => ?_) (fun h => ?_) | with_reducible refine IfB_not (fun h => ?_) (fun h => ?_) | with_reducible refine Guard_split (fun h => ?_) (fun h => ?_) | with_reducible refine IfB_split (fun h => ?_) (fun h => ?_))
  generalize (H1 ++ [(⟨[.sl p 0 l.length none], 0, .full⟩ : Blk)] : Heap) = G at *
  have g92 : ∀ C, (List.set G p C)[H1.length]? = some ⟨[.sl p 0 l.length none], 0, .full⟩ := fun C => by rw [List.getElem?_set_ne (by omega)]; exact g9
  have gr2 : ∀ C, (List.set G p C)[H.length + 1]? = some ⟨[.nils], 0, .full⟩ := fun C => by rw [List.getElem?_set_ne (by omega)]; exact gr
  have g93 := g92 ⟨row2 (ps.set j (.bool true, x.2)) ++ rest, 2, st⟩
  have gr3 := gr2 ⟨row2 (ps.set j (.bool true, x.2)) ++ rest, 2, st⟩
  have kk : ∀ C D, Keep none H (List.set (List.set G p C) (H.length + 1) D) := fun C D => ⟨by simp; omega, fun b hb _ => by rw [List.getElem?_set_ne (by omega), List.getElem?_set_ne (by omega)]; exact kG.at_ b hb (by simp)⟩
  have ho : ∀ D, TrOut H.length (List.set (List.set G p ⟨row2 (ps.set j (.bool true, x.2)) ++ rest, 2, st⟩) (H.length + 1) D) (.sl p 0 l.length none) (l.set j ⟨true, l[j].ns⟩) := fun D => by
    have := o2.out (G := (List.set (List.set G p ⟨row2 (ps.set j (.bool true, x.2)) ++ rest, 2, st⟩) (H.length + 1) D)) (by rw [List.length_set]) (m2 := H.length) (by omega) (fun b hb _ => by rw [List.getElem?_set_ne (by omega)])
    rw [List.length_set] at this; exact this
  repeat' (first | simp only [go_sem, Nat.reduceLT, Nat.reduceEqDiff, Nat.reduceAdd, Nat.reduceMul, Nat.reduceSub, Nat.reduceLeDiff, Int.reduceToNat, Int.reduceNeg, Int.reduceLT, Int.reduceLE, Int.reduceEq, reduceCtorEq, Int.natCast_zero, Int.natCast_one, Int.cast_ofNat_Int, Bool.not_not, false_eq_decide, true_eq_decide, hread0, hreadk, read_cons0, read_consk, astore_h0, astore_hk, hget0, hgetk, hset0, hsetk, hlen, hcat, Nat.add_assoc, Nat.add_zero, Nat.zero_add, List.length_append, and_true, true_and, AV.flat, g9, get_app g9, read_get g9, read_app g9, g93, get_app g93, read_get g93, read_app g93, gr3, get_app gr3, read_get gr3, read_app gr3, astore_get gr3, astore_app gr3, get_set gr3, get_set_app gr3, read_set gr3, read_set_app gr3, astore_set gr3, astore_set_app gr3, List.set_set, hget0s, hgetks, hread0s, hreadks, List.length_set, *, -hK, -hns, -k, -kH, -kset, -hbr1, -o, -o1, -o2, -x3, -x4, -hx, -ht, -hmay, -kG, -hon, -ha, -gr, -g92, -gr2, -kk, -ho, -hbr, -hb0, -hst] | with_reducible refine IfB_dec (fun h => ?_) (fun h => ?_) | with_reducible refine Guard_dec (fun h => ?_) (fun h => ?_) | with_reducible refine Guard_ndec (fun h => ?_) (fun h => ?_) | with_reducible refine Guard_not (fun h => ?_) (fun h => ?_) | with_reducible refine IfB_ndec (fun h => ?_) (fun h => ?_) | with_reducible refine IfB_not (fun h => ?_) (fun h => ?_) | with_reducible refine Guard_split (fun h => ?_) (fun h => ?_) | with_reducible refine IfB_split (fun h => ?_) (fun h => ?_))
  exact hK _ _ ⟨⟨_, rfl, ho _⟩, kk _ _⟩
theorem off_own (l : List Tk) (i : Int) (hn : l.length ≤ 140737488355328) (hns : ∀ t ∈ l, t.ns.length ≤ 140737488355328) (H : Heap) :
    WC Try.prog 25 [trAv l, .int .i64 i] H fun r H' => (∃ v, r = .tup [.agg [v], .int .i64 (askE l i)] ∧ TrOut H.length H' v (if askE l i = 0 then l.set i.toNat ⟨false, []⟩ else [])) ∧ Keep none H H' := by
  refine WC_of_K fun K hK => ?_
  have ask := fun J => asked_own l i hn hns J
  unfold trAv at *
  refine WC_of_body hT Try.func25 rfl (by simp [Try.f25]) (by simp [Try.f25]) (wx_sound hT _ ?_)
  simp only [Try.f25]
  repeat' (first | simp only [go_sem, Nat.reduceLT, Nat.reduceEqDiff, Nat.reduceAdd, Nat.reduceMul, Nat.reduceSub, Nat.reduceLeDiff, Int.reduceToNat, Int.reduceNeg, Int.reduceLT, Int.reduceLE, Int.reduceEq, reduceCtorEq, Int.natCast_zero, Int.natCast_one, Int.cast_ofNat_Int, Bool.not_not, false_eq_decide, true_eq_decide, hread0, hreadk, read_cons0, read_consk, astore_h0, astore_hk, hget0, hgetk, hset0, hsetk, hlen, hcat, Nat.add_assoc, Nat.add_zero, Nat.zero_add, List.length_append, and_true, true_and, AV.flat, *, -hK, -hns, -ask] | with_reducible refine IfB_dec (fun h => ?_) (fun h => ?_) | with_reducible refine Guard_dec (fun h => ?_) (fun h => ?_) | with_reducible refine Guard_ndec (fun h => ?_) (fun h => ?_) | with_reducible refine Guard_not (fun h => ?_) (fun h => ?_) | with_reducible refine IfB_ndec (fun h => ?_) (fun h => ?_) | with_reducible refine IfB_not (fun h => ?_) (fun h => ?_) | with_reducible refine Guard_split (fun h => ?_) (fun h => ?_) | with_reducible refine IfB_split (fun h => ?_) (fun h => ?_))
  refine (ask _).mono ?_
  rintro r H1 ⟨hc, k⟩
  clear ask
  have hb0 := k.get (b := H.length) (B := ⟨[tkE.lst l], 0, .full⟩) (by rw [hget0]; rfl) (by simp)
  have hbr := k.get (b := H.length + 1) (B := ⟨[.nils], 0, .full⟩) (by rw [hgetk]; rfl) (by simp)
  have kH : Keep none H H1 := (Keep.app none H _).trans k
  have hl1 : H.length + 2 ≤ H1.length := by have := k.len; simpa using this
  have kset : ∀ B C, Keep none H (List.set (H1 ++ [B] : Heap) (H.length + 1) C) := fun B C => ⟨by simp; omega, fun b hb _ => by rw [List.getElem?_set_ne (by omega), List.getElem?_append_left (by omega)]; exact kH.at_ b hb (by simp)⟩
  have hbr1 : ∀ B : Blk, (H1 ++ [B] : Heap)[H.length + 1]? = some ⟨[.nils], 0, .full⟩ := fun B => by rw [List.getElem?_append_left (by omega)]; exact hbr
  rcases hc with ⟨ha, p, ps, rfl, o⟩ | ⟨ha, rfl⟩
  rotate_left
  · rw [if_neg ha] at hK
    generalize askE l i = e at *
    have hr1 := hbr1 ⟨[.nils], 0, .full⟩
    repeat' (first | simp only [go_sem, Nat.reduceLT, Nat.reduceEqDiff, Nat.reduceAdd, Nat.reduceMul, Nat.reduceSub, Nat.reduceLeDiff, Int.reduceToNat, Int.reduceNeg, Int.reduceLT, Int.reduceLE, Int.reduceEq, reduceCtorEq, Int.natCast_zero, Int.natCast_one, Int.cast_ofNat_Int, Bool.not_not, false_eq_decide, true_eq_decide, hread0, hreadk, read_cons0, read_consk, astore_h0, astore_hk, hget0, hgetk, hset0, hsetk, hlen, hcat, Nat.add_assoc, Nat.add_zero, Nat.zero_add, List.length_append, and_true, true_and, AV.flat, hr1, get_app hr1, read_get hr1, read_app hr1, astore_get hr1, astore_app hr1, get_set hr1, get_set_app hr1, read_set hr1, read_set_app hr1, astore_set hr1, astore_set_app hr1, List.set_set, hget0s, hgetks, hread0s, hreadks, List.length_set, *, -hK, -hns, -hbr1, -kset, -k, -kH] | with_reducible refine IfB_dec (fun h => ?_) (fun h => ?_) | with_reducible refine Guard_dec (fun h => ?_) (fun h => ?_) | with_reducible refine Guard_ndec (fun h => ?_) (fun h => ?_) | with_reducible refine Guard_not (fun h => ?_) (fun h => ?_) | with_reducible refine IfB_ndec (fun h => ?_) (fun h => ?_) | with_reducible refine IfB_not (fun h => ?_) (fun h => ?_) | with_reducible refine Guard_split (fun h => ?_) (fun h => ?_) | with_reducible refine IfB_split (fun h => ?_) (fun h => ?_))
    exact hK _ _ ⟨⟨_, rfl, .inl ⟨rfl, rfl⟩⟩, kset _ _⟩
  obtain ⟨hmay, hi0, hi1⟩ := askE_ok ha
  obtain ⟨j, rfl⟩ : ∃ j : Nat, i = j := ⟨i.toNat, by omega⟩
  have hj : j < l.length := by omega
  rw [ha, if_pos rfl, Int.toNat_natCast] at hK
  obtain ⟨x, hx, ht, hon⟩ := o.get hj
  have o1 := (o.moved (Keep.app none H1 [(⟨[.sl p 0 l.length none], 0, .full⟩ : Blk)])).weaken (m2 := H.length + 2) (by simp)
  obtain ⟨-, -, x3, x4⟩ := o1.el j x _ hx ht
  replace x3 := x3 hj
  have e1 := TkO.addr (T' := T) (p := p) se22 hj
  have hpl := o.lt
  have hpg := o1.ge
  obtain ⟨st, rest, hst, w1⟩ := o1.store2 (T' := T) hx rfl (te := 36) (by simp only [asize, td36, Option.map_some]) (.bool false) .nils rfl
  have o2 := o1.upd' (y := (.bool false, .nils)) (t2 := ⟨false, []⟩) (k2 := l.length) hx ht (.inl ⟨rfl, hj⟩) (Keep.refl _ _) rfl (OwnE.nils _ _ _) (fun b hb => by cases hb) rest st hst
  have gr := hbr1 ⟨[.sl p 0 l.length none], 0, .full⟩
  have g9 : (H1 ++ [(⟨[.sl p 0 l.length none], 0, .full⟩ : Blk)] : Heap)[H1.length]? = some ⟨[.sl p 0 l.length none], 0, .full⟩ := by simp
  have hGl : (H1 ++ [(⟨[.sl p 0 l.length none], 0, .full⟩ : Blk)] : Heap).length = H1.length + 1 := by simp
  have kG := kH.trans (Keep.app none H1 [(⟨[.sl p 0 l.length none], 0, .full⟩ : Blk)])
  repeat' (first | simp only [go_sem, Nat.reduceLT, Nat.reduceEqDiff, Nat.reduceAdd, Nat.reduceMul, Nat.reduceSub, Nat.reduceLeDiff, Int.reduceToNat, Int.reduceNeg, Int.reduceLT, Int.reduceLE, Int.reduceEq, reduceCtorEq, Int.natCast_zero, Int.natCast_one, Int.cast_ofNat_Int, Bool.not_not, false_eq_decide, true_eq_decide, hread0, hreadk, read_cons0, read_consk, astore_h0, astore_hk, hget0, hgetk, hset0, hsetk, hlen, hcat, Nat.add_assoc, Nat.add_zero, Nat.zero_add, List.length_append, and_true, true_and, AV.flat, *, -hK, -hns, -k, -kH, -kset, -hbr1, -o, -o1, -o2, -x3, -x4, -hx, -ht, -hmay, -kG, -hon, -ha, -gr, -g9, -w1, -hbr, -hb0] | with_reducible refine IfB_dec (fun h => ?_) (fun h => ?_) | with_reducible refine Guard_dec (fun h => ?_) (fun h => ?_) | with_reducible refine Guard_ndec (fun h => ?_) (fun h => ?_) | with_reducible refine Guard_not (fun h => ?_) (fun h => ?_) | with_reducible refine IfB_ndec (fun h => ?_) (fun h => ?_) | with_reducible refine IfB_not (fun h => ?_) (fun h => ?_) | with_reducible refine Guard_split (fun h => ?_) (fun h => ?_) | with_reducible refine IfB_split (fun h => ?_) (fun h => ?_))
  generalize (H1 ++ [(⟨[.sl p 0 l.length none], 0, .full⟩ : Blk)] : Heap) = G at *
  have g92 : ∀ C, (List.set G p C)[H1.length]? = some ⟨[.sl p 0 l.length none], 0, .full⟩ := fun C => by rw [List.getElem?_set_ne (by omega)]; exact g9
  have gr2 : ∀ C, (List.set G p C)[H.length + 1]? = some ⟨[.nils], 0, .full⟩ := fun C => by rw [List.getElem?_set_ne (by omega)]; exact gr
  have g93 := g92 ⟨row2 (ps.set j (.bool false, .nils)) ++ rest, 2, st⟩
  have gr3 := gr2 ⟨row2 (ps.set j (.bool false, .nils)) ++ rest, 2, st⟩
  have kk : ∀ C D, Keep none H (List.set (List.set G p C) (H.length + 1) D) := fun C D => ⟨by simp; omega, fun b hb _ => by rw [List.getElem?_set_ne (by omega), List.getElem?_set_ne (by omega)]; exact kG.at_ b hb (by simp)⟩
  have ho : ∀ D, TrOut H.length (List.set (List.set G p ⟨row2 (ps.set j (.bool false, .nils)) ++ rest, 2, st⟩) (H.length + 1) D) (.sl p 0 l.length none) (l.set j ⟨false, []⟩) := fun D => by
    have := o2.out (G := (List.set (List.set G p ⟨row2 (ps.set j (.bool false, .nils)) ++ rest, 2, st⟩) (H.length + 1) D)) (by rw [List.length_set]) (m2 := H.length) (by omega) (fun b hb _ => by rw [List.getElem?_set_ne (by omega)])
    rw [List.length_set] at this; exact this
  repeat' (first | simp only [go_sem, Nat.reduceLT, Nat.reduceEqDiff, Nat.reduceAdd, Nat.reduceMul, Nat.reduceSub, Nat.reduceLeDiff, Int.reduceToNat, Int.reduceNeg, Int.reduceLT, Int.reduceLE, Int.reduceEq, reduceCtorEq, Int.natCast_zero, Int.natCast_one, Int.cast_ofNat_Int, Bool.not_not, false_eq_decide, true_eq_decide, hread0, hreadk, read_cons0, read_consk, astore_h0, astore_hk, hget0, hgetk, hset0, hsetk, hlen, hcat, Nat.add_assoc, Nat.add_zero, Nat.zero_add, List.length_append, and_true, true_and, AV.flat, g9, get_app g9, read_get g9, read_app g9, g93, get_app g93, read_get g93, read_app g93, gr3, get_app gr3, read_get gr3, read_app gr3, astore_get gr3, astore_app gr3, get_set gr3, get_set_app gr3, read_set gr3, read_set_app gr3, astore_set gr3, astore_set_app gr3, List.set_set, hget0s, hgetks, hread0s, hreadks, List.length_set, *, -hK, -hns, -k, -kH, -kset, -hbr1, -o, -o1, -o2, -x3, -x4, -hx, -ht, -hmay, -kG, -hon, -ha, -gr, -g92, -gr2, -kk, -ho, -hbr, -hb0, -hst] | with_reducible refine IfB_dec (fun h => ?_) (fun h => ?_) | with_reducible refine Guard_dec (fun h => ?_) (fun h => ?_) | with_reducible refine Guard_ndec (fun h => ?_) (fun h => ?_) | with_reducible refine Guard_not (fun h => ?_) (fun h => ?_) | with_reducible refine IfB_ndec (fun h => ?_) (fun h => ?_) | with_reducible refine IfB_not (fun h => ?_) (fun h => ?_) | with_reducible refine Guard_split (fun h => ?_) (fun h => ?_) | with_reducible refine IfB_split (fun h => ?_) (fun h => ?_))
  exact hK _ _ ⟨⟨_, rfl, ho _⟩, kk _ _⟩
theorem told_own (l : List Tk) (i : Int) (hn : l.length ≤ 140737488355328) (hns : ∀ t ∈ l, t.ns.length ≤ 140737488355328) (H : Heap) :
    WC Try.prog 21 [trAv l, .int .i64 i] H fun r H' => (∃ v, r = .tup [v, .int .i64 (askE l i)] ∧ OwnE nmE H.length H' v (if askE l i = 0 then (tkAt l i.toNat).ns else [])) ∧ Keep none H H' := by
  refine WC_of_K fun K hK => ?_
  have ask := fun J => asked_own l i hn hns J
  unfold trAv at *
  refine WC_of_body hT Try.func21 rfl (by simp [Try.f21]) (by simp [Try.f21]) (wx_sound hT _ ?_)
  simp only [Try.f21]
  repeat' (first | simp only [go_sem, Nat.reduceLT, Nat.reduceEqDiff, Nat.reduceAdd, Nat.reduceMul, Nat.reduceSub, Nat.reduceLeDiff, Int.reduceToNat, Int.reduceNeg, Int.reduceLT, Int.reduceLE, Int.reduceEq, reduceCtorEq, Int.natCast_zero, Int.natCast_one, Int.cast_ofNat_Int, Bool.not_not, false_eq_decide, true_eq_decide, hread0, hreadk, read_cons0, read_consk, astore_h0, astore_hk, hget0, hgetk, hset0, hsetk, hlen, hcat, Nat.add_assoc, Nat.add_zero, Nat.zero_add, List.length_append, and_true, true_and, AV.flat, *, -hK, -hns, -ask] | with_reducible refine IfB_dec (fun h => ?_) (fun h => ?_) | with_reducible refine Guard_dec (fun h => ?_) (fun h => ?_) | with_reducible refine Guard_ndec (fun h => ?_) (fun h => ?_) | with_reducible refine Guard_not (fun h => ?_) (fun h => ?_) | with_reducible refine IfB_ndec (fun h => ?_) (fun h => ?_) | with_reducible refine IfB_not (fun h => ?_) (fun h => ?_) | with_reducible refine Guard_split (fun h => ?_) (fun h => ?_) | with_reducible refine IfB_split (fun h => ?_) (fun h => ?_))
  refine (ask _).mono ?_
  rintro r H1 ⟨hc, k⟩
  clear ask
  have kH : Keep none H H1 := (Keep.app none H _).trans k
  rcases hc with ⟨ha, p, ps, rfl, o⟩ | ⟨ha, rfl⟩
  rotate_left
  · rw [if_neg ha] at hK
    generalize askE l i = e at *
    repeat' (first | simp only [go_sem, Nat.reduceLT, Nat.reduceEqDiff, Nat.reduceAdd, Nat.reduceMul, Nat.reduceSub, Nat.reduceLeDiff, Int.reduceToNat, Int.reduceNeg, Int.reduceLT, Int.reduceLE, Int.reduceEq, reduceCtorEq, Int.natCast_zero, Int.natCast_one, Int.cast_ofNat_Int, Bool.not_not, false_eq_decide, true_eq_decide, hread0, hreadk, read_cons0, read_consk, astore_h0, astore_hk, hget0, hgetk, hset0, hsetk, hlen, hcat, Nat.add_assoc, Nat.add_zero, Nat.zero_add, List.length_append, and_true, true_and, AV.flat, *, -hK, -hns, -k, -kH] | with_reducible refine IfB_dec (fun h => ?_) (fun h => ?_) | with_reducible refine Guard_dec (fun h => ?_) (fun h => ?_) | with_reducible refine Guard_ndec (fun h => ?_) (fun h => ?_) | with_reducible refine Guard_not (fun h => ?_) (fun h => ?_) | with_reducible refine IfB_ndec (fun h => ?_) (fun h => ?_) | with_reducible refine IfB_not (fun h => ?_) (fun h => ?_) | with_reducible refine Guard_split (fun h => ?_) (fun h => ?_) | with_reducible refine IfB_split (fun h => ?_) (fun h => ?_))
    exact hK _ _ ⟨⟨_, rfl, OwnE.nils _ _ _⟩, kH.trans (Keep.app _ _ _)⟩
  obtain ⟨hmay, hi0, hi1⟩ := askE_ok ha
  obtain ⟨j, rfl⟩ : ∃ j : Nat, i = j := ⟨i.toNat, by omega⟩
  have hj : j < l.length := by omega
  rw [ha, if_pos rfl, Int.toNat_natCast, tkAt_eq hj] at hK
  obtain ⟨x, hx, ht, hon⟩ := o.get hj
  have o1 := (o.moved (Keep.app none H1 [(⟨[.sl p 0 l.length none], 0, .full⟩ : Blk)])).weaken (m2 := H.length) (by simp)
  obtain ⟨-, -, x3, x4⟩ := o1.el j x _ hx ht
  replace x3 := x3 hj
  have hx3 := x3.one
  have e1 := TkO.addr (T' := T) (p := p) se22 hj
  have rN := o1.readN hx
  have g9 : (H1 ++ [(⟨[.sl p 0 l.length none], 0, .full⟩ : Blk)] : Heap)[H1.length]? = some ⟨[.sl p 0 l.length none], 0, .full⟩ := by simp
  have kG := kH.trans (Keep.app none H1 [(⟨[.sl p 0 l.length none], 0, .full⟩ : Blk)])
  repeat' (first | simp only [go_sem, Nat.reduceLT, Nat.reduceEqDiff, Nat.reduceAdd, Nat.reduceMul, Nat.reduceSub, Nat.reduceLeDiff, Int.reduceToNat, Int.reduceNeg, Int.reduceLT, Int.reduceLE, Int.reduceEq, reduceCtorEq, Int.natCast_zero, Int.natCast_one, Int.cast_ofNat_Int, Bool.not_not, false_eq_decide, true_eq_decide, hread0, hreadk, read_cons0, read_consk, astore_h0, astore_hk, hget0, hgetk, hset0, hsetk, hlen, hcat, Nat.add_assoc, Nat.add_zero, Nat.zero_add, List.length_append, and_true, true_and, AV.flat, *, -hK, -hns, -k, -kH, -o, -o1, -x3, -x4, -hx, -ht, -hmay, -kG, -hon, -ha, -g9, -rN] | with_reducible refine IfB_dec (fun h => ?_) (fun h => ?_) | with_reducible refine Guard_dec (fun h => ?_) (fun h => ?_) | with_reducible refine Guard_ndec (fun h => ?_) (fun h => ?_) | with_reducible refine Guard_not (fun h => ?_) (fun h => ?_) | with_reducible refine IfB_ndec (fun h => ?_) (fun h => ?_) | with_reducible refine IfB_not (fun h => ?_) (fun h => ?_) | with_reducible refine Guard_split (fun h => ?_) (fun h => ?_) | with_reducible refine IfB_split (fun h => ?_) (fun h => ?_))
  generalize (H1 ++ [(⟨[.sl p 0 l.length none], 0, .full⟩ : Blk)] : Heap) = G at *
  repeat' (first | simp only [go_sem, Nat.reduceLT, Nat.reduceEqDiff, Nat.reduceAdd, Nat.reduceMul, Nat.reduceSub, Nat.reduceLeDiff, Int.reduceToNat, Int.reduceNeg, Int.reduceLT, Int.reduceLE, Int.reduceEq, reduceCtorEq, Int.natCast_zero, Int.natCast_one, Int.cast_ofNat_Int, Bool.not_not, false_eq_decide, true_eq_decide, hread0, hreadk, read_cons0, read_consk, astore_h0, astore_hk, hget0, hgetk, hset0, hsetk, hlen, hcat, Nat.add_assoc, Nat.add_zero, Nat.zero_add, List.length_append, and_true, true_and, AV.flat, g9, get_app g9, read_get g9, read_app g9, hx3, one_solid hx3, one_cells hx3, *, -hK, -hns, -k, -kH, -o, -o1, -x3, -x4, -hx, -ht, -hmay, -kG, -hon, -ha] | with_reducible refine IfB_dec (fun h => ?_) (fun h => ?_) | with_reducible refine Guard_dec (fun h => ?_) (fun h => ?_) | with_reducible refine Guard_ndec (fun h => ?_) (fun h => ?_) | with_reducible refine Guard_not (fun h => ?_) (fun h => ?_) | with_reducible refine IfB_ndec (fun h => ?_) (fun h => ?_) | with_reducible refine IfB_not (fun h => ?_) (fun h => ?_) | with_reducible refine Guard_split (fun h => ?_) (fun h => ?_) | with_reducible refine IfB_split (fun h => ?_) (fun h => ?_))
  exact hK _ _ ⟨⟨_, rfl, x3⟩, kG⟩
end Go.Proofs.Ytccfhighlpfdmaa

