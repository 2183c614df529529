import Derived.Test.YtccfhighlpfdmaaTrkU
set_option linter.unusedSimpArgs false
set_option linter.unusedVariables false
set_option maxRecDepth 100000
set_option maxHeartbeats 4000000
namespace Go.Proofs.Ytccfhighlpfdmaa
open Go Go.Proofs Go.Proofs.PI
theorem vs_at {X : Heap} {b : Nat} {cs : List AV} {sz : Nat} {st : St} (hb : X[b]? = some ⟨cs, sz, st⟩) (hal : st.alive = true) (hl : cs.length = 1 * sz) : Vs X (.sl b 0 1 none) sz 1 cs :=
  ⟨hl, .inr (.inr ⟨b, 0, none, _, rfl, by simp, hb, hal, fun _ => rfl, by simp; omega, by rw [Nat.one_mul] at hl ⊢; rw [List.drop_zero, ← hl, List.take_length]⟩)⟩
theorem TkO.out {m p k : Nat} {H G : Heap} {ps : List (AV × AV)} {l : List Tk} (o : TkO m H p k ps l) (hk : k = l.length) {m2 : Nat} (hm : m2 ≤ m) (h : ∀ b, m ≤ b → b < H.length → G[b]? = H[b]?) : TrOut m2 G (.sl p 0 l.length none) l := by
  subst hk; exact .inr ⟨p, ps, rfl, (o.low h).weaken hm⟩
theorem trRead_own (l : List Tk) (i : Int) (n : Nm) (hn : l.length ≤ 140737488355328) (hns : ∀ t ∈ l, t.ns.length ≤ 140737488355328) (H : Heap) :
    WC Try.prog 15 [trAv l, .int .i64 i, n.av] H fun r H' => (∃ v pv, r = .tup [.agg [v], pv, .int .i64 (trRead l i n).2] ∧ TrOut H.length H' v (trRead l i n).1.1 ∧ OwnE puE H.length H' pv (trRead l i n).1.2) ∧ Keep none H H' := by
  refine WC_of_K fun K hK => ?_
  have ask := fun J => asked_own l i hn hns J
  have c1 := fun J => named_spec n J
  unfold Nm.av trAv at *
  refine WC_of_body hT Try.func15 rfl (by simp [Try.f15]) (by simp [Try.f15]) (wx_sound hT _ ?_)
  simp only [Try.f15]
  repeat' (first | simp only [go_sem, Nat.reduceLT, Nat.reduceEqDiff, Nat.reduceAdd, Nat.reduceMul, Nat.reduceSub, Nat.reduceLeDiff, Int.reduceToNat, Int.reduceNeg, Int.reduceLT, Int.reduceLE, Int.reduceEq, reduceCtorEq, Int.natCast_zero, Int.natCast_one, Int.cast_ofNat_Int, Bool.not_not, false_eq_decide, true_eq_decide, hread0, hreadk, read_cons0, read_consk, astore_h0, astore_hk, hget0, hgetk, hset0, hsetk, hlen, hcat, Nat.add_assoc, Nat.add_zero, Nat.zero_add, List.length_append, and_true, true_and, AV.flat, *, -hK, -hns, -ask, -c1] | with_reducible refine IfB_dec (fun h => ?_) (fun h => ?_) | with_reducible refine Guard_dec (fun h => ?_) (fun h => ?_) | with_reducible refine Guard_ndec (fun h => ?_) (fun h => ?_) | with_reducible refine Guard_not (fun h => ?_) (fun h => ?_) | with_reducible refine IfB_ndec (fun h => ?_) (fun h => ?_) | with_reducible refine IfB_not (fun h => ?_) (fun h => ?_) | with_reducible refine Guard_split (fun h => ?_) (fun h => ?_) | with_reducible refine IfB_split (fun h => ?_) (fun h => ?_))
  refine (ask _).mono ?_
  rintro r H1 ⟨hc, k⟩
  clear ask
  have hbn := k.get (b := H.length + 1) (B := ⟨[.int .i64 n.ten, .str n.key], 0, .full⟩) (by rw [hgetk]; rfl) (by simp)
  have hbr := k.get (b := H.length + 2) (B := ⟨[.nils], 0, .full⟩) (by rw [hgetk]; rfl) (by simp)
  have kH : Keep none H H1 := (Keep.app none H _).trans k
  have hl1 : H.length + 3 ≤ H1.length := by have := k.len; simpa using this
  have bx : ∀ B : Blk, ∀ C, List.set (H1 ++ [B] : Heap) (H.length + 2) C = (List.set H1 (H.length + 2) C ++ [B] : Heap) := fun B C => by rw [List.set_append_left _ _ (by omega)]
  have hbn1 : ∀ B : Blk, (H1 ++ [B] : Heap)[H.length + 1]? = some ⟨[.int .i64 n.ten, .str n.key], 0, .full⟩ := fun B => by rw [List.getElem?_append_left (by omega)]; exact hbn
  have hbr1 : ∀ B : Blk, (H1 ++ [B] : Heap)[H.length + 2]? = some ⟨[.nils], 0, .full⟩ := fun B => by rw [List.getElem?_append_left (by omega)]; exact hbr
  have kset : ∀ B C, Keep none H (List.set (H1 ++ [B] : Heap) (H.length + 2) C) := fun B C => ⟨by simp; omega, fun b hb _ => by rw [List.getElem?_set_ne (by omega), List.getElem?_append_left (by omega)]; exact kH.at_ b hb (by simp)⟩
  rcases hc with ⟨ha, p, ps, rfl, o⟩ | ⟨ha, rfl⟩
  rotate_left
  · have hr : trRead l i n = (([], []), askE l i) := by unfold trRead; rw [if_neg ha]
    rw [hr] at hK
    generalize askE l i = e at *
    have hr1 := hbr1 ⟨[.nils], 0, .full⟩
    repeat' (first | simp only [go_sem, Nat.reduceLT, Nat.reduceEqDiff, Nat.reduceAdd, Nat.reduceMul, Nat.reduceSub, Nat.reduceLeDiff, Int.reduceToNat, Int.reduceNeg, Int.reduceLT, Int.reduceLE, Int.reduceEq, reduceCtorEq, Int.natCast_zero, Int.natCast_one, Int.cast_ofNat_Int, Bool.not_not, false_eq_decide, true_eq_decide, hread0, hreadk, read_cons0, read_consk, astore_h0, astore_hk, hget0, hgetk, hset0, hsetk, hlen, hcat, Nat.add_assoc, Nat.add_zero, Nat.zero_add, List.length_append, and_true, true_and, AV.flat, hr1, get_app hr1, read_get hr1, read_app hr1, astore_get hr1, astore_app hr1, get_set hr1, get_set_app hr1, read_set hr1, read_set_app hr1, astore_set hr1, astore_set_app hr1, List.set_set, hget0s, hgetks, hread0s, hreadks, List.length_set, *, -hK, -hns, -c1, -bx, -hbn1, -hbr1, -kset, -k, -kH] | with_reducible refine IfB_dec (fun h => ?_) (fun h => ?_) | with_reducible refine Guard_dec (fun h => ?_) (fun h => ?_) | with_reducible refine Guard_ndec (fun h => ?_) (fun h => ?_) | with_reducible refine Guard_not (fun h => ?_) (fun h => ?_) | with_reducible refine IfB_ndec (fun h => ?_) (fun h => ?_) | with_reducible refine IfB_not (fun h => ?_) (fun h => ?_) | with_reducible refine Guard_split (fun h => ?_) (fun h => ?_) | with_reducible refine IfB_split (fun h => ?_) (fun h => ?_))
    exact hK _ _ ⟨⟨_, _, rfl, .inl ⟨rfl, rfl⟩, OwnE.nils _ _ _⟩, kset _ _⟩
  have hr1 := hbr1 ⟨[.sl p 0 l.length none], 0, .full⟩
  have hn1 := hbn1 ⟨[.sl p 0 l.length none], 0, .full⟩
  cases hmn : n.mayB with
  | false =>
    have hr : trRead l i n = (([], []), 8) := by unfold trRead; rw [if_pos ha, if_neg (by simp [hmn])]
    rw [hr] at hK
    rw [hmn] at c1
    clear ha
    repeat' (first | simp only [go_sem, Nat.reduceLT, Nat.reduceEqDiff, Nat.reduceAdd, Nat.reduceMul, Nat.reduceSub, Nat.reduceLeDiff, Int.reduceToNat, Int.reduceNeg, Int.reduceLT, Int.reduceLE, Int.reduceEq, reduceCtorEq, Int.natCast_zero, Int.natCast_one, Int.cast_ofNat_Int, Bool.not_not, false_eq_decide, true_eq_decide, hread0, hreadk, read_cons0, read_consk, astore_h0, astore_hk, hget0, hgetk, hset0, hsetk, hlen, hcat, Nat.add_assoc, Nat.add_zero, Nat.zero_add, List.length_append, and_true, true_and, AV.flat, hr1, get_app hr1, read_get hr1, read_app hr1, astore_get hr1, astore_app hr1, get_set hr1, get_set_app hr1, read_set hr1, read_set_app hr1, astore_set hr1, astore_set_app hr1, List.set_set, hget0s, hgetks, hread0s, hreadks, List.length_set, hn1, get_app hn1, read_get hn1, read_app hn1, *, -hK, -hns, -c1, -bx, -hbn1, -hbr1, -kset, -k, -kH, -o, -hmn] | refine WC.call (c1 _) ?_ | with_reducible refine IfB_dec (fun h => ?_) (fun h => ?_) | with_reducible refine Guard_dec (fun h => ?_) (fun h => ?_) | with_reducible refine Guard_ndec (fun h => ?_) (fun h => ?_) | with_reducible refine Guard_not (fun h => ?_) (fun h => ?_) | with_reducible refine IfB_ndec (fun h => ?_) (fun h => ?_) | with_reducible refine IfB_not (fun h => ?_) (fun h => ?_) | with_reducible refine Guard_split (fun h => ?_) (fun h => ?_) | with_reducible refine IfB_split (fun h => ?_) (fun h => ?_))
    exact hK _ _ ⟨⟨_, _, rfl, .inl ⟨rfl, rfl⟩, OwnE.nils _ _ _⟩, kset _ _⟩
  | true =>
  rw [hmn] at c1
  obtain ⟨hmay, hi0, hi1⟩ := askE_ok ha
  obtain ⟨j, rfl⟩ : ∃ j : Nat, i = j := ⟨i.toNat, by omega⟩
  have hj : j < l.length := by omega
  have hr : trRead l j n = if l[j].on = true then ((l.set j (readT j l[j] n).1, (readT j l[j] n).2), 0) else ((l, []), 0) := by
    unfold trRead; rw [if_pos ha, if_pos hmn, Int.toNat_natCast, tkAt_eq hj]
  rw [hr] at hK
  clear hr hr1 hn1 ha hmn
  obtain ⟨x, hx, ht, hon⟩ := o.get hj
  have hxl : ∀ b, x.2.blk = some b → b < H1.length := fun b hb => ((o.el j x _ hx ht).2.2.1 hj).lt hb
  have o1 := (o.moved (Keep.app none H1 [(⟨[.sl p 0 l.length none], 0, .full⟩ : Blk)]))
  have g9 : (H1 ++ [(⟨[.sl p 0 l.length none], 0, .full⟩ : Blk)] : Heap)[H1.length]? = some ⟨[.sl p 0 l.length none], 0, .full⟩ := by simp
  have gn := hbn1 ⟨[.sl p 0 l.length none], 0, .full⟩
  have gr := hbr1 ⟨[.sl p 0 l.length none], 0, .full⟩
  have kG := kH.trans (Keep.app none H1 [(⟨[.sl p 0 l.length none], 0, .full⟩ : Blk)])
  have hGl : (H1 ++ [(⟨[.sl p 0 l.length none], 0, .full⟩ : Blk)] : Heap).length = H1.length + 1 := by simp
  have hpg := o.ge
  simp only [List.length_append, List.length_cons, List.length_nil] at hpg
  have hlt := o.lt
  have e1 := TkO.addr (T' := T) (p := p) se22 hj
  have rOn := o1.readOn hx
  rw [hon] at rOn
  clear o
  have o := o1.weaken (m2 := H.length + 3) (by simp)
  clear o1 bx hbn1 hbr1 kset hbn hbr kH
  obtain ⟨-, -, x3, x4⟩ := o.el j x _ hx ht
  replace x3 := x3 hj
  repeat' (first | simp only [go_sem, Nat.reduceLT, Nat.reduceEqDiff, Nat.reduceAdd, Nat.reduceMul, Nat.reduceSub, Nat.reduceLeDiff, Int.reduceToNat, Int.reduceNeg, Int.reduceLT, Int.reduceLE, Int.reduceEq, reduceCtorEq, Int.natCast_zero, Int.natCast_one, Int.cast_ofNat_Int, Bool.not_not, false_eq_decide, true_eq_decide, hread0, hreadk, read_cons0, read_consk, astore_h0, astore_hk, hget0, hgetk, hset0, hsetk, hlen, hcat, Nat.add_assoc, Nat.add_zero, Nat.zero_add, List.length_append, and_true, true_and, AV.flat, *, -hK, -hns, -c1, -k, -o, -x3, -x4, -hx, -ht, -hmay, -kG, -hon, -g9, -gn, -gr, -rOn, -hxl] | refine WC.call (c1 _) ?_ | with_reducible refine IfB_dec (fun h => ?_) (fun h => ?_) | with_reducible refine Guard_dec (fun h => ?_) (fun h => ?_) | with_reducible refine Guard_ndec (fun h => ?_) (fun h => ?_) | with_reducible refine Guard_not (fun h => ?_) (fun h => ?_) | with_reducible refine IfB_ndec (fun h => ?_) (fun h => ?_) | with_reducible refine IfB_not (fun h => ?_) (fun h => ?_) | with_reducible refine Guard_split (fun h => ?_) (fun h => ?_) | with_reducible refine IfB_split (fun h => ?_) (fun h => ?_))
  generalize (H1 ++ [(⟨[.sl p 0 l.length none], 0, .full⟩ : Blk)] : Heap) = G at *
  clear k
  have kset : ∀ C, Keep none H (List.set G (H.length + 2) C) := fun C => ⟨by simp; omega, fun b hb _ => by rw [List.getElem?_set_ne (by omega)]; exact kG.at_ b hb (by simp)⟩
  have kslow : ∀ C b, H.length + 3 ≤ b → b < G.length → (List.set G (H.length + 2) C)[b]? = G[b]? := fun C b hb _ => by rw [List.getElem?_set_ne (by omega)]
  cases hlo : l[j].on with
  | false =>
    rw [hlo] at rOn hK
    rw [if_neg (by decide)] at hK
    repeat' (first | simp only [go_sem, Nat.reduceLT, Nat.reduceEqDiff, Nat.reduceAdd, Nat.reduceMul, Nat.reduceSub, Nat.reduceLeDiff, Int.reduceToNat, Int.reduceNeg, Int.reduceLT, Int.reduceLE, Int.reduceEq, reduceCtorEq, Int.natCast_zero, Int.natCast_one, Int.cast_ofNat_Int, Bool.not_not, false_eq_decide, true_eq_decide, hread0, hreadk, read_cons0, read_consk, astore_h0, astore_hk, hget0, hgetk, hset0, hsetk, hlen, hcat, Nat.add_assoc, Nat.add_zero, Nat.zero_add, List.length_append, and_true, true_and, AV.flat, gn, get_app gn, read_get gn, read_app gn, g9, get_app g9, read_get g9, read_app g9, gr, get_app gr, read_get gr, read_app gr, astore_get gr, astore_app gr, get_set gr, get_set_app gr, read_set gr, read_set_app gr, astore_set gr, astore_set_app gr, List.set_set, hget0s, hgetks, hread0s, hreadks, List.length_set, *, -hK, -hns, -c1, -o, -x3, -x4, -hx, -ht, -hmay, -kG, -hon, -kset, -kslow, -hlo, -hxl] | refine WC.call (c1 _) ?_ | with_reducible refine IfB_dec (fun h => ?_) (fun h => ?_) | with_reducible refine Guard_dec (fun h => ?_) (fun h => ?_) | with_reducible refine Guard_ndec (fun h => ?_) (fun h => ?_) | with_reducible refine Guard_not (fun h => ?_) (fun h => ?_) | with_reducible refine IfB_ndec (fun h => ?_) (fun h => ?_) | with_reducible refine IfB_not (fun h => ?_) (fun h => ?_) | with_reducible refine Guard_split (fun h => ?_) (fun h => ?_) | with_reducible refine IfB_split (fun h => ?_) (fun h => ?_))
    exact hK _ _ ⟨⟨_, _, rfl, o.out rfl (by omega) (kslow _), OwnE.nils _ _ _⟩, kset _⟩
  | true =>
  rw [hlo] at rOn hK
  rw [if_pos rfl] at hK
  have hns16 : l[j].ns.length ≤ 16 := (hmay.2.2 _ (List.getElem_mem hj)).1.2
  have rN := o.readN hx
  have cl := fun (y : Nm) (J : Heap) (kk : Keep x.2.blk G J) => readF_spec n y (H.length + 1) J (kk.get gn (fun e => by have := x3.ge e; omega))
  have cd := fun G2 (kk : Keep none G G2) => ndelF_own (H.length + 3) x.2 l[j].ns 46 [.ptr (H.length + 1) 0] (fun m => decide (m = n)) (by omega) G2 (x3.keep0 kk) (fun y _ J k5 => cl y J ((Keep.weak kk).trans k5))
  clear cl
  repeat' (first | simp only [go_sem, Nat.reduceLT, Nat.reduceEqDiff, Nat.reduceAdd, Nat.reduceMul, Nat.reduceSub, Nat.reduceLeDiff, Int.reduceToNat, Int.reduceNeg, Int.reduceLT, Int.reduceLE, Int.reduceEq, reduceCtorEq, Int.natCast_zero, Int.natCast_one, Int.cast_ofNat_Int, Bool.not_not, false_eq_decide, true_eq_decide, hread0, hreadk, read_cons0, read_consk, astore_h0, astore_hk, hget0, hgetk, hset0, hsetk, hlen, hcat, Nat.add_assoc, Nat.add_zero, Nat.zero_add, List.length_append, and_true, true_and, AV.flat, gn, get_app gn, read_get gn, read_app gn, g9, get_app g9, read_get g9, read_app g9, gr, get_app gr, read_get gr, read_app gr, astore_get gr, astore_app gr, get_set gr, get_set_app gr, read_set gr, read_set_app gr, astore_set gr, astore_set_app gr, List.set_set, hget0s, hgetks, hread0s, hreadks, List.length_set, *, -hK, -hns, -c1, -o, -x3, -x4, -hx, -ht, -hmay, -kG, -hon, -kset, -kslow, -hlo, -cd, -hxl] | refine WC.call (c1 _) ?_ | with_reducible refine IfB_dec (fun h => ?_) (fun h => ?_) | with_reducible refine Guard_dec (fun h => ?_) (fun h => ?_) | with_reducible refine Guard_ndec (fun h => ?_) (fun h => ?_) | with_reducible refine Guard_not (fun h => ?_) (fun h => ?_) | with_reducible refine IfB_ndec (fun h => ?_) (fun h => ?_) | with_reducible refine IfB_not (fun h => ?_) (fun h => ?_) | with_reducible refine Guard_split (fun h => ?_) (fun h => ?_) | with_reducible refine IfB_split (fun h => ?_) (fun h => ?_))
  refine WX_rows hT hmix [(0, none), (1, none), (2, none), (3, none), (4, none), (5, none), (7, none), (8, none), (6, some [false, false, true, true, true, true, true, false]), (9, some [true, true, true, true, true, true, true, true, false]), (10, none), (11, none), (12, some [true, true, true, true, true, true, true, true, true, true, true, true])] (by kernel_rfl) ?_
  repeat' (first | simp only [go_sem, Nat.reduceLT, Nat.reduceEqDiff, Nat.reduceAdd, Nat.reduceMul, Nat.reduceSub, Nat.reduceLeDiff, Int.reduceToNat, Int.reduceNeg, Int.reduceLT, Int.reduceLE, Int.reduceEq, reduceCtorEq, Int.natCast_zero, Int.natCast_one, Int.cast_ofNat_Int, Bool.not_not, false_eq_decide, true_eq_decide, hread0, hreadk, read_cons0, read_consk, astore_h0, astore_hk, hget0, hgetk, hset0, hsetk, hlen, hcat, Nat.add_assoc, Nat.add_zero, Nat.zero_add, List.length_append, and_true, true_and, AV.flat, gn, get_app gn, read_get gn, read_app gn, g9, get_app g9, read_get g9, read_app g9, gr, get_app gr, read_get gr, read_app gr, astore_get gr, astore_app gr, get_set gr, get_set_app gr, read_set gr, read_set_app gr, astore_set gr, astore_set_app gr, List.set_set, hget0s, hgetks, hread0s, hreadks, List.length_set, *, -hK, -hns, -c1, -o, -x3, -x4, -hx, -ht, -hmay, -kG, -hon, -kset, -kslow, -hlo, -cd, -hxl] | refine WC.call (c1 _) ?_ | with_reducible refine IfB_dec (fun h => ?_) (fun h => ?_) | with_reducible refine Guard_dec (fun h => ?_) (fun h => ?_) | with_reducible refine Guard_ndec (fun h => ?_) (fun h => ?_) | with_reducible refine Guard_not (fun h => ?_) (fun h => ?_) | with_reducible refine IfB_ndec (fun h => ?_) (fun h => ?_) | with_reducible refine IfB_not (fun h => ?_) (fun h => ?_) | with_reducible refine Guard_split (fun h => ?_) (fun h => ?_) | with_reducible refine IfB_split (fun h => ?_) (fun h => ?_))
  refine (cd _ (Keep.app none G _)).mono ?_
  rintro s2 H2 ⟨os, k2, hsb⟩
  have hs2 := os.one
  have hx2 := x3.one
  have gqG : (G ++ [(⟨[.int .i64 n.ten, .str n.key], 2, .full⟩ : Blk)] : Heap)[H1.length + 1]? = some ⟨[.int .i64 n.ten, .str n.key], 2, .full⟩ := by rw [← hGl]; simp
  have gn2 := k2.get (b := H.length + 1) (B := ⟨[.int .i64 n.ten, .str n.key], 0, .full⟩) (get_app gn _) (fun e => by have := x3.ge e; omega)
  have gq := k2.get gqG (fun e => by have := x3.lt e; omega)
  have gp2 := k2.at_ p (by have := o.lt; simp; omega) x4
  have r2 : H2.read p (j * 2 + 1) 1 = some [x.2] := by
    have := k2.read (read_more rN _) x4
    exact this
  clear cd
  repeat' (first | simp only [go_sem, Nat.reduceLT, Nat.reduceEqDiff, Nat.reduceAdd, Nat.reduceMul, Nat.reduceSub, Nat.reduceLeDiff, Int.reduceToNat, Int.reduceNeg, Int.reduceLT, Int.reduceLE, Int.reduceEq, reduceCtorEq, Int.natCast_zero, Int.natCast_one, Int.cast_ofNat_Int, Bool.not_not, false_eq_decide, true_eq_decide, hread0, hreadk, read_cons0, read_consk, astore_h0, astore_hk, hget0, hgetk, hset0, hsetk, hlen, hcat, Nat.add_assoc, Nat.add_zero, Nat.zero_add, List.length_append, and_true, true_and, AV.flat, gq, get_app gq, read_get gq, read_app gq, gn2, get_app gn2, read_get gn2, read_app gn2, hs2, one_solid hs2, one_cells hs2, hx2, one_solid hx2, one_cells hx2, *, -hK, -hns, -c1, -o, -x3, -x4, -hx, -ht, -hmay, -kG, -hon, -kset, -kslow, -hlo, -hxl, -os, -k2, -hsb, -gp2] | with_reducible refine IfB_dec (fun h => ?_) (fun h => ?_) | with_reducible refine Guard_dec (fun h => ?_) (fun h => ?_) | with_reducible refine Guard_ndec (fun h => ?_) (fun h => ?_) | with_reducible refine Guard_not (fun h => ?_) (fun h => ?_) | with_reducible refine IfB_ndec (fun h => ?_) (fun h => ?_) | with_reducible refine IfB_not (fun h => ?_) (fun h => ?_) | with_reducible refine Guard_split (fun h => ?_) (fun h => ?_) | with_reducible refine IfB_split (fun h => ?_) (fun h => ?_))
  refine append_enc (E := nmE) (m := H.length + 3) (ys := [n]) os se34 az38 td38 (by rw [Enc.row_one]; exact asrc_sl tk34 (Vs.sl (vs_at gq rfl rfl))) (by decide) (by have := List.length_filter_le (fun m => !decide (m = n)) l[j].ns; show (_ + 1) * 50 ≤ _; omega) (by have := k2.len; simp at this; omega) ?_
  intro s4 H4 o4 k4 hn4
  have hs4 := o4.one
  rw [hsb] at k4 hn4
  have kx : Keep x.2.blk G H4 := ((Keep.weak (Keep.app none G _)).trans k2).trans k4
  obtain ⟨q1, q2⟩ := OwnE.sc o4
  obtain ⟨st, rest, hst, w1⟩ := o.storeN (T' := T) hx (kx.at_ p o.lt x4) (te := 34) (by simp only [asize, td34, Option.map_some]) hs4 q1 q2
  have hxs : ∀ b, s4.blk = some b → x.2.blk = some b ∨ G.length ≤ b := fun b hb => (hn4 b hb).imp id fun h => by have := k2.len; simp at this; omega
  have o5 := o.upd' (y := (x.1, s4)) (t2 := ⟨true, readN l[j].ns n⟩) (k2 := l.length) hx ht (.inl ⟨rfl, hj⟩) kx (by rw [hon, hlo]) o4 hxs rest st hst
  have gn4 := k4.get gn2 (fun e => by have := x3.ge e; omega)
  have gq4 := k4.get gq (fun e => by have := x3.lt e; omega)
  have r4 : H4.read p (j * 2 + 1) 1 = some [x.2] := k4.read r2 x4
  have g94 := kx.get g9 (fun e => by have := hxl _ e; omega)
  have gr4 := kx.get gr (fun e => by have := x3.ge e; omega)
  repeat' (first | simp only [go_sem, Nat.reduceLT, Nat.reduceEqDiff, Nat.reduceAdd, Nat.reduceMul, Nat.reduceSub, Nat.reduceLeDiff, Int.reduceToNat, Int.reduceNeg, Int.reduceLT, Int.reduceLE, Int.reduceEq, reduceCtorEq, Int.natCast_zero, Int.natCast_one, Int.cast_ofNat_Int, Bool.not_not, false_eq_decide, true_eq_decide, hread0, hreadk, read_cons0, read_consk, astore_h0, astore_hk, hget0, hgetk, hset0, hsetk, hlen, hcat, Nat.add_assoc, Nat.add_zero, Nat.zero_add, List.length_append, and_true, true_and, AV.flat, gn4, get_app gn4, read_get gn4, read_app gn4, gq4, get_app gq4, read_get gq4, read_app gq4, hs2, one_solid hs2, one_cells hs2, hx2, one_solid hx2, one_cells hx2, hs4, one_solid hs4, one_cells hs4, *, -hK, -hns, -c1, -o, -x3, -x4, -hx, -ht, -hmay, -kG, -hon, -kset, -kslow, -hlo, -hxl, -os, -k2, -hsb, -gp2, -o4, -k4, -hn4, -kx, -q1, -q2, -hxs, -o5, -g94, -gr4] | with_reducible refine IfB_dec (fun h => ?_) (fun h => ?_) | with_reducible refine Guard_dec (fun h => ?_) (fun h => ?_) | with_reducible refine Guard_ndec (fun h => ?_) (fun h => ?_) | with_reducible refine Guard_not (fun h => ?_) (fun h => ?_) | with_reducible refine IfB_ndec (fun h => ?_) (fun h => ?_) | with_reducible refine IfB_not (fun h => ?_) (fun h => ?_) | with_reducible refine Guard_split (fun h => ?_) (fun h => ?_) | with_reducible refine IfB_split (fun h => ?_) (fun h => ?_))
  have hle4 : G.length ≤ H4.length := kx.len
  have hx5 : (ps.set j (x.1, s4))[j]? = some (x.1, s4) := List.getElem?_set_self (by rw [o.len]; exact hj)
  have ht5 : (l.set j ⟨true, readN l[j].ns n⟩)[j]? = some ⟨true, readN l[j].ns n⟩ := List.getElem?_set_self hj
  have r5 := o5.readN hx5
  have g95 : ∀ C, (List.set H4 p C)[H1.length]? = some ⟨[.sl p 0 l.length none], 0, .full⟩ := fun C => by rw [List.getElem?_set_ne (by omega)]; exact g94
  have gr5 : ∀ C, (List.set H4 p C)[H.length + 2]? = some ⟨[.nils], 0, .full⟩ := fun C => by rw [List.getElem?_set_ne (by omega)]; exact gr4
  have gn5 : ∀ C, (List.set H4 p C)[H.length + 1]? = some ⟨[.int .i64 n.ten, .str n.key], 0, .full⟩ := fun C => by rw [List.getElem?_set_ne (by omega)]; exact gn4
  have k5 : ∀ C, Keep none H (List.set H4 p C) := fun C => ⟨by simp; omega, fun b hb _ => by rw [List.getElem?_set_ne (by omega), kx.at_ b (by omega) (fun e => by have := x3.ge e; omega)]; exact kG.at_ b hb (by simp)⟩
  have h5l : ∀ C, H1.length + 1 ≤ (List.set H4 p C).length := fun C => by simp; omega
  replace g95 := g95 ⟨row2 (ps.set j (x.1, s4)) ++ rest, 2, st⟩
  replace gr5 := gr5 ⟨row2 (ps.set j (x.1, s4)) ++ rest, 2, st⟩
  replace gn5 := gn5 ⟨row2 (ps.set j (x.1, s4)) ++ rest, 2, st⟩
  replace k5 := k5 ⟨row2 (ps.set j (x.1, s4)) ++ rest, 2, st⟩
  replace h5l := h5l ⟨row2 (ps.set j (x.1, s4)) ++ rest, 2, st⟩
  generalize (List.set H4 p ⟨row2 (ps.set j (x.1, s4)) ++ rest, 2, st⟩ : Heap) = G5 at *
  obtain ⟨-, -, o6, o6p⟩ := o5.el j _ _ hx5 ht5
  replace o6 := o6 hj
  simp only at o6 o6p r5
  have e6 := o6.alen (by decide) tk34
  have kset5 : ∀ C, Keep none H (List.set G5 (H.length + 2) C) := fun C => ⟨by simp; omega, fun b hb _ => by rw [List.getElem?_set_ne (by omega)]; exact k5.at_ b hb (by simp)⟩
  have kslow5 : ∀ C b, H.length + 3 ≤ b → b < G5.length → (List.set G5 (H.length + 2) C)[b]? = G5[b]? := fun C b hb _ => by rw [List.getElem?_set_ne (by omega)]
  have hfl := List.length_filter_le (fun m => !decide (m = n)) l[j].ns
  have hrl : (readN l[j].ns n).length = (l[j].ns.filter fun m => !decide (m = n)).length + 1 := by unfold readN; simp
  have h4ne : s4.blk ≠ some H1.length := fun e => by
    rcases hxs _ e with h | h
    · have := hxl _ h; omega
    · omega
  clear k4 kx o4 w1 hn4 hxs gn4 gq4 r4 g94 gr4 hle4 gqG gq gp2 r2 gn2 os hsb k2 rN x3 x4 hxl hst
  clear c1 hs2 hx2 kset kslow rOn gn gr g9 q1 q2 hns
  by_cases h16 : (readN l[j].ns n).length ≤ 16
  · rw [show readT j l[j] n = (⟨true, readN l[j].ns n⟩, []) by unfold readT; rw [if_pos h16, hlo]] at hK
    have i16 : ((readN l[j].ns n).length : Int) ≤ 16 := by omega
    simp only at hK
    have ho5 := o5.out (G := List.set G5 (H.length + 2) ⟨[.sl p 0 l.length none], 0, .full⟩) (by rw [List.length_set]) (m2 := H.length) (by omega) (kslow5 _)
    rw [List.length_set] at ho5
    repeat' (first | simp only [go_sem, Nat.reduceLT, Nat.reduceEqDiff, Nat.reduceAdd, Nat.reduceMul, Nat.reduceSub, Nat.reduceLeDiff, Int.reduceToNat, Int.reduceNeg, Int.reduceLT, Int.reduceLE, Int.reduceEq, reduceCtorEq, Int.natCast_zero, Int.natCast_one, Int.cast_ofNat_Int, Bool.not_not, false_eq_decide, true_eq_decide, hread0, hreadk, read_cons0, read_consk, astore_h0, astore_hk, hget0, hgetk, hset0, hsetk, hlen, hcat, Nat.add_assoc, Nat.add_zero, Nat.zero_add, List.length_append, and_true, true_and, AV.flat, g95, get_app g95, read_get g95, read_app g95, gr5, get_app gr5, read_get gr5, read_app gr5, astore_get gr5, astore_app gr5, get_set gr5, get_set_app gr5, read_set gr5, read_set_app gr5, astore_set gr5, astore_set_app gr5, List.set_set, hget0s, hgetks, hread0s, hreadks, List.length_set, hs4, one_solid hs4, one_cells hs4, *, -hK, -o, -hx, -ht, -hmay, -kG, -hon, -hlo, -hx5, -ht5, -o6, -o6p, -k5, -kset5, -kslow5, -hfl, -hrl, -ho5, -o5, -h16, -h4ne] | with_reducible refine IfB_dec (fun h => ?_) (fun h => ?_) | with_reducible refine Guard_dec (fun h => ?_) (fun h => ?_) | with_reducible refine Guard_ndec (fun h => ?_) (fun h => ?_) | with_reducible refine Guard_not (fun h => ?_) (fun h => ?_) | with_reducible refine IfB_ndec (fun h => ?_) (fun h => ?_) | with_reducible refine IfB_not (fun h => ?_) (fun h => ?_) | with_reducible refine Guard_split (fun h => ?_) (fun h => ?_) | with_reducible refine IfB_split (fun h => ?_) (fun h => ?_))
    exact hK _ _ ⟨⟨_, _, rfl, ho5, OwnE.nils _ _ _⟩, kset5 _⟩
  · have i16 : ¬ ((readN l[j].ns n).length : Int) ≤ 16 := by omega
    rw [show readT j l[j] n = (⟨true, (readN l[j].ns n).drop 1⟩, ((readN l[j].ns n).take 1).map (pushN j)) by unfold readT; rw [if_neg h16, hlo]] at hK
    simp only at hK
    have h0 : 0 < (readN l[j].ns n).length := by omega
    obtain ⟨pb, po, a1, a2, -⟩ := o6.at_ (by decide) se34 h0 (k := .i64) (z := 0) rfl
    rw [show nmE.sz = 2 from rfl, nmE_cells] at a2
    have cd := fun J (kk : Keep none G5 J) => ndel_own (H.length + 3) s4 (readN l[j].ns n) 0 h0 (by omega) J (o6.keep0 kk)
    have z0 : ((0 : Nat) : Int) = 0 := rfl
    have z1 : ((0 + 1 : Nat) : Int) = 1 := rfl
    rw [z0, z1] at cd
    repeat' (first | simp only [go_sem, Nat.reduceLT, Nat.reduceEqDiff, Nat.reduceAdd, Nat.reduceMul, Nat.reduceSub, Nat.reduceLeDiff, Int.reduceToNat, Int.reduceNeg, Int.reduceLT, Int.reduceLE, Int.reduceEq, reduceCtorEq, Int.natCast_zero, Int.natCast_one, Int.cast_ofNat_Int, Bool.not_not, false_eq_decide, true_eq_decide, hread0, hreadk, read_cons0, read_consk, astore_h0, astore_hk, hget0, hgetk, hset0, hsetk, hlen, hcat, Nat.add_assoc, Nat.add_zero, Nat.zero_add, List.length_append, and_true, true_and, AV.flat, g95, get_app g95, read_get g95, read_app g95, gr5, get_app gr5, read_get gr5, read_app gr5, astore_get gr5, astore_app gr5, get_set gr5, get_set_app gr5, read_set gr5, read_set_app gr5, astore_set gr5, astore_set_app gr5, List.set_set, hget0s, hgetks, hread0s, hreadks, List.length_set, hs4, one_solid hs4, one_cells hs4, *, -hK, -o, -hx, -ht, -hmay, -kG, -hon, -hlo, -hx5, -ht5, -o6, -o6p, -k5, -kset5, -kslow5, -hfl, -hrl, -o5, -h16, -h4ne, -cd, -h0] | with_reducible refine IfB_dec (fun h => ?_) (fun h => ?_) | with_reducible refine Guard_dec (fun h => ?_) (fun h => ?_) | with_reducible refine Guard_ndec (fun h => ?_) (fun h => ?_) | with_reducible refine Guard_not (fun h => ?_) (fun h => ?_) | with_reducible refine IfB_ndec (fun h => ?_) (fun h => ?_) | with_reducible refine IfB_not (fun h => ?_) (fun h => ?_) | with_reducible refine Guard_split (fun h => ?_) (fun h => ?_) | with_reducible refine IfB_split (fun h => ?_) (fun h => ?_))
    generalize hG6 : (G5 ++ [(⟨[.int .i64 (readN l[j].ns n)[0].ten, .str (readN l[j].ns n)[0].key], 0, .full⟩ : Blk)] : Heap) = G6
    have kG6 : Keep none G5 G6 := by rw [← hG6]; exact Keep.app _ _ _
    have gy6 : G6[G5.length]? = some ⟨[.int .i64 (readN l[j].ns n)[0].ten, .str (readN l[j].ns n)[0].key], 0, .full⟩ := by rw [← hG6, hget0]; rfl
    have hG6l : G6.length = G5.length + 1 := by rw [← hG6]; simp
    have r6 := kG6.read r5 (by simp)
    have o7 := o5.moved kG6
    clear hG6
    repeat' (first | simp only [go_sem, Nat.reduceLT, Nat.reduceEqDiff, Nat.reduceAdd, Nat.reduceMul, Nat.reduceSub, Nat.reduceLeDiff, Int.reduceToNat, Int.reduceNeg, Int.reduceLT, Int.reduceLE, Int.reduceEq, reduceCtorEq, Int.natCast_zero, Int.natCast_one, Int.cast_ofNat_Int, Bool.not_not, false_eq_decide, true_eq_decide, hread0, hreadk, read_cons0, read_consk, astore_h0, astore_hk, hget0, hgetk, hset0, hsetk, hlen, hcat, Nat.add_assoc, Nat.add_zero, Nat.zero_add, List.length_append, and_true, true_and, AV.flat, hs4, one_solid hs4, one_cells hs4, *, -hK, -o, -hx, -ht, -hmay, -kG, -hon, -hlo, -hx5, -ht5, -o6, -o6p, -k5, -kset5, -kslow5, -hfl, -hrl, -o5, -h16, -h4ne, -cd, -h0, -kG6, -o7] | with_reducible refine IfB_dec (fun h => ?_) (fun h => ?_) | with_reducible refine Guard_dec (fun h => ?_) (fun h => ?_) | with_reducible refine Guard_ndec (fun h => ?_) (fun h => ?_) | with_reducible refine Guard_not (fun h => ?_) (fun h => ?_) | with_reducible refine IfB_ndec (fun h => ?_) (fun h => ?_) | with_reducible refine IfB_not (fun h => ?_) (fun h => ?_) | with_reducible refine Guard_split (fun h => ?_) (fun h => ?_) | with_reducible refine IfB_split (fun h => ?_) (fun h => ?_))
    refine (cd _ kG6).mono ?_
    rintro s6 H6 ⟨os6, k6, hsb6⟩
    have hs6 := os6.one
    obtain ⟨q1, q2⟩ := OwnE.sc os6
    have gp6 := k6.at_ p o7.lt o6p
    obtain ⟨st6, rest6, hst6, w6⟩ := o7.storeN (T' := T) hx5 gp6 (te := 34) (by simp only [asize, td34, Option.map_some]) hs6 q1 q2
    have o8 := o7.upd' (y := (x.1, s6)) (t2 := ⟨true, (readN l[j].ns n).drop 1⟩) (k2 := l.length) hx5 ht5 (.inl ⟨rfl, hj⟩) k6 (by rw [hon, hlo]) (by rw [List.drop_one, ← List.eraseIdx_zero]; exact os6) (fun b hb => .inl (by rw [← hsb6]; exact hb)) rest6 st6 hst6
    have r66 := k6.read r6 o6p
    have hle6 : G6.length ≤ H6.length := k6.len
    have g96 := k6.get (kG6.get g95 (by simp)) h4ne
    have gr6 := k6.get (kG6.get gr5 (by simp)) (fun e => by have := o6.ge e; omega)
    have gy7 := k6.get gy6 (fun e => by have := o6.lt e; omega)
    have sh : (ps.set j (x.1, s4)).set j (x.1, s6) = ps.set j (x.1, s6) := List.set_set ..
    have sh2 : (l.set j ⟨true, readN l[j].ns n⟩).set j ⟨true, (readN l[j].ns n).drop 1⟩ = l.set j ⟨true, (readN l[j].ns n).drop 1⟩ := List.set_set ..
    simp only [sh] at w6 o8
    rw [sh2] at o8
    repeat' (first | simp only [go_sem, Nat.reduceLT, Nat.reduceEqDiff, Nat.reduceAdd, Nat.reduceMul, Nat.reduceSub, Nat.reduceLeDiff, Int.reduceToNat, Int.reduceNeg, Int.reduceLT, Int.reduceLE, Int.reduceEq, reduceCtorEq, Int.natCast_zero, Int.natCast_one, Int.cast_ofNat_Int, Bool.not_not, false_eq_decide, true_eq_decide, hread0, hreadk, read_cons0, read_consk, astore_h0, astore_hk, hget0, hgetk, hset0, hsetk, hlen, hcat, Nat.add_assoc, Nat.add_zero, Nat.zero_add, List.length_append, and_true, true_and, AV.flat, hs4, one_solid hs4, one_cells hs4, hs6, one_solid hs6, one_cells hs6, *, -hK, -o, -hx, -ht, -hmay, -kG, -hon, -hlo, -hx5, -ht5, -o6, -o6p, -k5, -kset5, -kslow5, -hfl, -hrl, -o5, -h16, -h4ne, -cd, -h0, -kG6, -o7, -o8, -k6, -os6, -q1, -q2, -hsb6, -gp6, -hst6, -g96, -gr6, -gy7] | with_reducible refine IfB_dec (fun h => ?_) (fun h => ?_) | with_reducible refine Guard_dec (fun h => ?_) (fun h => ?_) | with_reducible refine Guard_ndec (fun h => ?_) (fun h => ?_) | with_reducible refine Guard_not (fun h => ?_) (fun h => ?_) | with_reducible refine IfB_ndec (fun h => ?_) (fun h => ?_) | with_reducible refine IfB_not (fun h => ?_) (fun h => ?_) | with_reducible refine Guard_split (fun h => ?_) (fun h => ?_) | with_reducible refine IfB_split (fun h => ?_) (fun h => ?_))
    have g97 : (List.set H6 p ⟨row2 (ps.set j (x.1, s6)) ++ rest6, 2, st6⟩ : Heap)[H1.length]? = some ⟨[.sl p 0 l.length none], 0, .full⟩ := by rw [List.getElem?_set_ne (by omega)]; exact g96
    have gr7 : (List.set H6 p ⟨row2 (ps.set j (x.1, s6)) ++ rest6, 2, st6⟩ : Heap)[H.length + 2]? = some ⟨[.nils], 0, .full⟩ := by rw [List.getElem?_set_ne (by omega)]; exact gr6
    have gy8 : (List.set H6 p ⟨row2 (ps.set j (x.1, s6)) ++ rest6, 2, st6⟩ : Heap)[G5.length]? = some ⟨[.int .i64 (readN l[j].ns n)[0].ten, .str (readN l[j].ns n)[0].key], 0, .full⟩ := by rw [List.getElem?_set_ne (by omega)]; exact gy7
    have k7 : Keep none H (List.set H6 p ⟨row2 (ps.set j (x.1, s6)) ++ rest6, 2, st6⟩ : Heap) := ⟨by simp; omega, fun b hb _ => by
      rw [List.getElem?_set_ne (by omega), k6.at_ b (by omega) (fun e => by have := o6.ge e; omega), kG6.at_ b (by omega) (by simp)]; exact k5.at_ b hb (by simp)⟩
    have h7l : G5.length + 1 ≤ (List.set H6 p ⟨row2 (ps.set j (x.1, s6)) ++ rest6, 2, st6⟩ : Heap).length := by simp; omega
    clear w6 g96 gr6 gy7 gy6 r66 r6 cd r5 g95 gr5 gn5 kset5 kslow5 o5 o7 k6 kG6 k5 o6 o6p
    generalize (List.set H6 p ⟨row2 (ps.set j (x.1, s6)) ++ rest6, 2, st6⟩ : Heap) = G7 at *
    have hq : (readN l[j].ns n).take 1 = [(readN l[j].ns n)[0]] := by rw [List.take_succ_eq_append_getElem h0]; simp
    rw [hq] at hK
    clear hq
    generalize (readN l[j].ns n)[0] = y at *
    obtain ⟨yt, yk⟩ := y
    simp only [List.map_cons, List.map_nil, pushN] at hK gy8
    refine WX_rows hT hmix [(0, none), (1, none), (2, none), (3, none), (4, none), (5, some [false, false, false, false, true]), (6, none), (7, none)] (by kernel_rfl) ?_
    have gy9 : (List.set G7 (H.length + 2) ⟨[.sl p 0 l.length none], 0, .full⟩ ++ [(⟨[.int .i64 (j : Int), .int .i64 yt, .str yk], 3, .full⟩ : Blk)] : Heap)[G5.length]? = some ⟨[.int .i64 yt, .str yk], 0, .full⟩ := by
      rw [List.getElem?_append_left (by simp; omega), List.getElem?_set_ne (by omega)]; exact gy8
    have ho9 := o8.out (G := (List.set G7 (H.length + 2) ⟨[.sl p 0 l.length none], 0, .full⟩ ++ [(⟨[.int .i64 (j : Int), .int .i64 yt, .str yk], 3, .full⟩ : Blk)] : Heap)) (by rw [List.length_set]) (m2 := H.length) (by omega) (fun b hb hb2 => by rw [List.getElem?_append_left (by simp; omega), List.getElem?_set_ne (by omega)])
    rw [List.length_set] at ho9
    have op : OwnE puE H.length (List.set G7 (H.length + 2) ⟨[.sl p 0 l.length none], 0, .full⟩ ++ [(⟨[.int .i64 (j : Int), .int .i64 yt, .str yk], 3, .full⟩ : Blk)] : Heap) (.sl G7.length 0 1 none) [⟨j, yt, yk⟩] := Own.whole (st := .full) (by omega) (by rw [List.getElem?_append_right (by simp)]; simp; exact ⟨rfl, rfl⟩) rfl rfl
    repeat' (first | simp only [go_sem, Nat.reduceLT, Nat.reduceEqDiff, Nat.reduceAdd, Nat.reduceMul, Nat.reduceSub, Nat.reduceLeDiff, Int.reduceToNat, Int.reduceNeg, Int.reduceLT, Int.reduceLE, Int.reduceEq, reduceCtorEq, Int.natCast_zero, Int.natCast_one, Int.cast_ofNat_Int, Bool.not_not, false_eq_decide, true_eq_decide, hread0, hreadk, read_cons0, read_consk, astore_h0, astore_hk, hget0, hgetk, hset0, hsetk, hlen, hcat, Nat.add_assoc, Nat.add_zero, Nat.zero_add, List.length_append, and_true, true_and, AV.flat, g97, get_app g97, read_get g97, read_app g97, gr7, get_app gr7, read_get gr7, read_app gr7, astore_get gr7, astore_app gr7, get_set gr7, get_set_app gr7, read_set gr7, read_set_app gr7, astore_set gr7, astore_set_app gr7, List.set_set, hget0s, hgetks, hread0s, hreadks, List.length_set, gy8, get_app gy8, read_get gy8, read_app gy8, gy9, get_app gy9, read_get gy9, read_app gy9, hs4, one_solid hs4, one_cells hs4, hs6, one_solid hs6, one_cells hs6, *, -hK, -o, -hx, -ht, -hmay, -kG, -hon, -hlo, -hx5, -ht5, -hfl, -hrl, -h16, -h4ne, -h0, -o8, -os6, -q1, -q2, -hsb6, -gp6, -hst6, -k7, -ho9, -op] | with_reducible refine IfB_dec (fun h => ?_) (fun h => ?_) | with_reducible refine Guard_dec (fun h => ?_) (fun h => ?_) | with_reducible refine Guard_ndec (fun h => ?_) (fun h => ?_) | with_reducible refine Guard_not (fun h => ?_) (fun h => ?_) | with_reducible refine IfB_ndec (fun h => ?_) (fun h => ?_) | with_reducible refine IfB_not (fun h => ?_) (fun h => ?_) | with_reducible refine Guard_split (fun h => ?_) (fun h => ?_) | with_reducible refine IfB_split (fun h => ?_) (fun h => ?_))
    exact hK _ _ ⟨⟨_, _, rfl, ho9, op⟩, ⟨by simp; omega, fun b hb _ => by rw [List.getElem?_append_left (by simp; omega), List.getElem?_set_ne (by omega)]; exact k7.at_ b hb (by simp)⟩⟩
end Go.Proofs.Ytccfhighlpfdmaa

