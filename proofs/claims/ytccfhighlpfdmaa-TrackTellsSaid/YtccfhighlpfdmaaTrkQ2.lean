import Derived.Test.YtccfhighlpfdmaaTrkP2
import Derived.Test.YtccfhighlpfdmaaTrkCh
set_option linter.unusedSimpArgs false
set_option linter.unusedVariables false
set_option maxRecDepth 100000
set_option maxHeartbeats 4000000
namespace Go.Proofs.Ytccfhighlpfdmaa
open Go Go.Proofs Go.Proofs.PI
theorem refChange_own (l : List Tk) (cs : List Chg) (hn : l.length ≤ 140737488355328) (hns : ∀ t ∈ l, t.ns.length ≤ 140737488355328) (hcn : cs.length ≤ 140737488355328) (hok : ∀ c ∈ cs, c.Ok) (H : Heap) :
    WC Try.prog 34 [trAv l, chgE.lst cs] H fun r H' => (∃ v pv, r = .tup [.agg [v], pv, .int .i64 (trChg l cs).2] ∧ TrOut H.length H' v (trChg l cs).1.1 ∧ OwnE puE H.length H' pv (trChg l cs).1.2) ∧ Keep none H H' := by
  refine WC_of_K fun K hK => ?_
  have ck := fun J => refTrCheck_spec l hn hns J
  have cg := fun J => refChanges_spec cs hcn hok J
  unfold trAv at *
  by_cases hm : trMay l
  rotate_left
  · rw [trE_bad hm] at ck
    have ha : trChg l cs = (([], []), 8) := by unfold trChg; rw [if_neg hm]
    rw [ha] at hK
    clear hm
    refine WC_of_body hT Try.func34 rfl (by simp [Try.f34]) (by simp [Try.f34]) (wx_sound hT _ ?_)
    simp only [Try.f34]
    repeat' (first | simp only [go_sem, Nat.reduceLT, Nat.reduceEqDiff, Nat.reduceAdd, Nat.reduceMul, Nat.reduceSub, Nat.reduceLeDiff, Int.reduceToNat, Int.reduceNeg, Int.reduceLT, Int.reduceLE, Int.reduceEq, reduceCtorEq, Int.natCast_zero, Int.natCast_one, Int.cast_ofNat_Int, Bool.not_not, false_eq_decide, true_eq_decide, hread0, hreadk, read_cons0, read_consk, astore_h0, astore_hk, hget0, hgetk, hset0, hsetk, hlen, hcat, Nat.add_assoc, Nat.add_zero, Nat.zero_add, List.length_append, and_true, true_and, AV.flat, *, -hK, -ck, -cg, -hns, -hok] | refine WC.call (ck _) ?_ | refine WC.call (cg _) ?_ | with_reducible refine IfB_dec (fun h => ?_) (fun h => ?_) | with_reducible refine Guard_dec (fun h => ?_) (fun h => ?_) | with_reducible refine Guard_ndec (fun h => ?_) (fun h => ?_) | with_reducible refine Guard_not (fun h => ?_) (fun h => ?_) | with_reducible refine IfB_ndec (fun h => ?_) (fun h => ?_) | with_reducible refine IfB_not (fun h => ?_) (fun h => ?_) | with_reducible refine Guard_split (fun h => ?_) (fun h => ?_) | with_reducible refine IfB_split (fun h => ?_) (fun h => ?_))
    exact hK _ _ ⟨⟨_, _, rfl, .inl ⟨rfl, rfl⟩, OwnE.nils _ _ _⟩, Keep.app _ _ _⟩
  rw [trE_ok hm] at ck
  by_cases he : (changesL cs).2 = 0
  rotate_left
  · have ha : trChg l cs = (([], []), (changesL cs).2) := by unfold trChg; rw [if_pos hm, if_neg he]
    rw [ha] at hK
    generalize changesL cs = ce at *
    obtain ⟨cb, e⟩ := ce
    simp only at he cg
    clear hm
    refine WC_of_body hT Try.func34 rfl (by simp [Try.f34]) (by simp [Try.f34]) (wx_sound hT _ ?_)
    simp only [Try.f34]
    repeat' (first | simp only [go_sem, Nat.reduceLT, Nat.reduceEqDiff, Nat.reduceAdd, Nat.reduceMul, Nat.reduceSub, Nat.reduceLeDiff, Int.reduceToNat, Int.reduceNeg, Int.reduceLT, Int.reduceLE, Int.reduceEq, reduceCtorEq, Int.natCast_zero, Int.natCast_one, Int.cast_ofNat_Int, Bool.not_not, false_eq_decide, true_eq_decide, hread0, hreadk, read_cons0, read_consk, astore_h0, astore_hk, hget0, hgetk, hset0, hsetk, hlen, hcat, Nat.add_assoc, Nat.add_zero, Nat.zero_add, List.length_append, and_true, true_and, AV.flat, *, -hK, -ck, -cg, -hns, -hok] | refine WC.call (ck _) ?_ | refine WC.call (cg _) ?_ | with_reducible refine IfB_dec (fun h => ?_) (fun h => ?_) | with_reducible refine Guard_dec (fun h => ?_) (fun h => ?_) | with_reducible refine Guard_ndec (fun h => ?_) (fun h => ?_) | with_reducible refine Guard_not (fun h => ?_) (fun h => ?_) | with_reducible refine IfB_ndec (fun h => ?_) (fun h => ?_) | with_reducible refine IfB_not (fun h => ?_) (fun h => ?_) | with_reducible refine Guard_split (fun h => ?_) (fun h => ?_) | with_reducible refine IfB_split (fun h => ?_) (fun h => ?_))
    exact hK _ _ ⟨⟨_, _, rfl, .inl ⟨rfl, rfl⟩, OwnE.nils _ _ _⟩, Keep.app _ _ _⟩
  have ha : trChg l cs = (runS (l, []) cs, 0) := by unfold trChg; rw [if_pos hm, if_pos he]
  rw [ha] at hK
  rw [he] at cg
  have hl1 := hm.1
  have hl2 := hm.2.1
  have hk16 : ∀ t ∈ l, t.ns.length ≤ 16 := fun t ht => (hm.2.2 t ht).1.2
  have tw := fun J => refTwin_own l (by omega) (fun t ht => by have := hk16 t ht; omega) J
  have hplen := fun cs => runS_plen hm cs
  have hsmall := fun cs => runS_small 16 cs (l, []) hk16
  have hslen := fun cs => runS_len cs (l, [])
  unfold trAv at tw
  clear hm he ha hk16
  generalize (changesL cs).1 = cb at *
  refine WC_of_body hT Try.func34 rfl (by simp [Try.f34]) (by simp [Try.f34]) (wx_sound hT _ ?_)
  simp only [Try.f34]
  repeat' (first | simp only [go_sem, Nat.reduceLT, Nat.reduceEqDiff, Nat.reduceAdd, Nat.reduceMul, Nat.reduceSub, Nat.reduceLeDiff, Int.reduceToNat, Int.reduceNeg, Int.reduceLT, Int.reduceLE, Int.reduceEq, reduceCtorEq, Int.natCast_zero, Int.natCast_one, Int.cast_ofNat_Int, Bool.not_not, false_eq_decide, true_eq_decide, hread0, hreadk, read_cons0, read_consk, astore_h0, astore_hk, hget0, hgetk, hset0, hsetk, hlen, hcat, Nat.add_assoc, Nat.add_zero, Nat.zero_add, List.length_append, and_true, true_and, AV.flat, *, -hK, -ck, -cg, -hns, -hok, -tw, -hplen, -hsmall, -hslen] | refine WC.call (ck _) ?_ | refine WC.call (cg _) ?_ | with_reducible refine IfB_dec (fun h => ?_) (fun h => ?_) | with_reducible refine Guard_dec (fun h => ?_) (fun h => ?_) | with_reducible refine Guard_ndec (fun h => ?_) (fun h => ?_) | with_reducible refine Guard_not (fun h => ?_) (fun h => ?_) | with_reducible refine IfB_ndec (fun h => ?_) (fun h => ?_) | with_reducible refine IfB_not (fun h => ?_) (fun h => ?_) | with_reducible refine Guard_split (fun h => ?_) (fun h => ?_) | with_reducible refine IfB_split (fun h => ?_) (fun h => ?_))
  refine (tw _).mono ?_
  rintro r H1 ⟨⟨v, rfl, ho⟩, k⟩
  clear ck cg tw
  have kH : Keep none H H1 := (Keep.app none H _).trans k
  have hl1' := k.len
  simp only [List.length_append, List.length_cons, List.length_nil] at hl1'
  have hbr := k.get (b := H.length + 1) (B := ⟨[.nils], 0, .full⟩) (by rw [hgetk]; rfl) (by simp)
  rcases ho with ⟨h0, -⟩ | ⟨p, ps, rfl, o⟩
  · rw [h0] at hl1; simp at hl1
  have u0 := o.lts
  have hpg := o.ge
  simp only [List.length_append, List.length_cons, List.length_nil] at hpg
  repeat' (first | simp only [go_sem, Nat.reduceLT, Nat.reduceEqDiff, Nat.reduceAdd, Nat.reduceMul, Nat.reduceSub, Nat.reduceLeDiff, Int.reduceToNat, Int.reduceNeg, Int.reduceLT, Int.reduceLE, Int.reduceEq, reduceCtorEq, Int.natCast_zero, Int.natCast_one, Int.cast_ofNat_Int, Bool.not_not, false_eq_decide, true_eq_decide, hread0, hreadk, read_cons0, read_consk, astore_h0, astore_hk, hget0, hgetk, hset0, hsetk, hlen, hcat, Nat.add_assoc, Nat.add_zero, Nat.zero_add, List.length_append, and_true, true_and, AV.flat, *, -hK, -hns, -hok, -hplen, -hsmall, -hslen, -o, -k, -kH, -hbr, -u0] | with_reducible refine IfB_dec (fun h => ?_) (fun h => ?_) | with_reducible refine Guard_dec (fun h => ?_) (fun h => ?_) | with_reducible refine Guard_ndec (fun h => ?_) (fun h => ?_) | with_reducible refine Guard_not (fun h => ?_) (fun h => ?_) | with_reducible refine IfB_ndec (fun h => ?_) (fun h => ?_) | with_reducible refine IfB_not (fun h => ?_) (fun h => ?_) | with_reducible refine Guard_split (fun h => ?_) (fun h => ?_) | with_reducible refine IfB_split (fun h => ?_) (fun h => ?_))
  generalize hG : (H1 ++ [(⟨[.sl p 0 l.length none], 0, .full⟩ : Blk)] : Heap) = G
  have s0 : RcS (H.length + 2) (H.length + 1) H1.length p l.length H G ps l .nils [] := by
    have kG : Keep none H1 G := by rw [← hG]; exact Keep.app _ _ _
    refine ⟨(o.moved kG).weaken (by simp), OwnE.nils _ _ _, (fun b hb => by cases hb), by rw [← hG, hget0]; rfl, kG.get hbr (by simp), ⟨by omega, by omega, by omega, by omega, by have := u0.1; omega, fun i x h e => by have := u0.2 i x _ h e; omega⟩, by rw [← hG]; simp, kH.trans kG⟩
  clear hG hbr u0 o k kH hpg
  refine WX_loopS [1, 4, 8] (fun k fr' J => ∃ (a : Nat) (qs : List (AV × AV)) (pv : AV), k = cs.length - a ∧ a ≤ cs.length ∧ fr'.get 10 = .int .i64 a ∧ fr'.get 9 = pv ∧ RcS (H.length + 2) (H.length + 1) H1.length p l.length H J qs (runS (l, []) (cs.take a)).1 pv (runS (l, []) (cs.take a)).2) cs.length ⟨0, ps, .nils, rfl, by omega, by simp only [go_sem, Nat.reduceLT, Nat.reduceEqDiff, Nat.reduceAdd, Nat.reduceMul, Nat.reduceSub, Nat.reduceLeDiff, Int.reduceToNat, Int.reduceNeg, Int.reduceLT, Int.reduceLE, Int.reduceEq, reduceCtorEq]; rfl, by simp only [go_sem, Nat.reduceLT, Nat.reduceEqDiff, Nat.reduceAdd, Nat.reduceMul, Nat.reduceSub, Nat.reduceLeDiff, Int.reduceToNat, Int.reduceNeg, Int.reduceLT, Int.reduceLE, Int.reduceEq, reduceCtorEq], by rw [List.take_zero]; exact s0⟩ ?_
  clear s0
  rintro k fr' J A R hA hs hg hR ⟨a, qs, pv, rfl, hac, f10, f9, S⟩
  have s1 := hg 1 (by decide)
  have s4 := hg 4 (by decide)
  have s8 := hg 8 (by decide)
  simp only [Fr.get_put, Fr.get_init, List.getD_cons_zero, List.getD_cons_succ, Nat.reduceEqDiff, if_true, if_false] at s1 s4 s8
  refine wx_sound hT _ ?_
  have hpo := S.pu.one
  by_cases hlt : a < cs.length
  rotate_left
  · have i1 : ¬ (a : Int) < cs.length := by omega
    have hae : a = cs.length := by omega
    rw [hae, List.take_length] at S
    have gx := S.bx
    have gr := S.br
    have hlow := S.low
    have hsl := hslen cs
    simp only at hsl
    have ho9 := S.tk.out (G := (List.set J (H.length + 1) ⟨[.sl p 0 l.length none], 0, .full⟩ : Heap)) hsl.symm (m2 := H.length) (by omega) (fun b hb hb2 => by rw [List.getElem?_set_ne (by omega)])
    rw [hsl] at ho9
    have op : OwnE puE H.length (List.set J (H.length + 1) ⟨[.sl p 0 l.length none], 0, .full⟩ : Heap) pv (runS (l, []) cs).2 := (S.pu.mono (by omega)).keep (Keep.of_set rfl) (fun b hb e => by cases hb; have := S.pu.ge e; omega)
    have kk : Keep none H (List.set J (H.length + 1) ⟨[.sl p 0 l.length none], 0, .full⟩ : Heap) := ⟨by simp; exact S.kp.len, fun b hb _ => by rw [List.getElem?_set_ne (by omega)]; exact S.kp.at_ b hb (by simp)⟩
    repeat' (first | simp only [go_sem, Nat.reduceLT, Nat.reduceEqDiff, Nat.reduceAdd, Nat.reduceMul, Nat.reduceSub, Nat.reduceLeDiff, Int.reduceToNat, Int.reduceNeg, Int.reduceLT, Int.reduceLE, Int.reduceEq, reduceCtorEq, Int.natCast_zero, Int.natCast_one, Int.cast_ofNat_Int, Bool.not_not, false_eq_decide, true_eq_decide, hread0, hreadk, read_cons0, read_consk, astore_h0, astore_hk, hget0, hgetk, hset0, hsetk, hlen, hcat, Nat.add_assoc, Nat.add_zero, Nat.zero_add, List.length_append, and_true, true_and, AV.flat, gx, get_app gx, read_get gx, read_app gx, gr, get_app gr, read_get gr, read_app gr, astore_get gr, astore_app gr, get_set gr, get_set_app gr, read_set gr, read_set_app gr, astore_set gr, astore_set_app gr, List.set_set, hget0s, hgetks, hread0s, hreadks, List.length_set, hpo, one_solid hpo, one_cells hpo, *, -hK, -hns, -hok, -hplen, -hsmall, -hslen, -S, -hlow, -hsl, -ho9, -op, -kk, -hae] | with_reducible refine IfB_dec (fun h => ?_) (fun h => ?_) | with_reducible refine Guard_dec (fun h => ?_) (fun h => ?_) | with_reducible refine Guard_ndec (fun h => ?_) (fun h => ?_) | with_reducible refine Guard_not (fun h => ?_) (fun h => ?_) | with_reducible refine IfB_ndec (fun h => ?_) (fun h => ?_) | with_reducible refine IfB_not (fun h => ?_) (fun h => ?_) | with_reducible refine Guard_split (fun h => ?_) (fun h => ?_) | with_reducible refine IfB_split (fun h => ?_) (fun h => ?_))
    exact hK _ _ ⟨⟨_, _, rfl, ho9, op⟩, kk⟩
  have i1 : (a : Int) < cs.length := by omega
  have e1 := at_enc (E := chgE) (T := T) (k := .i64) se25 hlt rfl
  have e3 := inc_id hlt hcn
  have hstep := runS_step (s := (l, [])) hlt
  have hpl := hplen (cs.take a)
  have hsm := hsmall (cs.take a)
  have hsl := hslen (cs.take a)
  simp only at hsl
  have back : ∀ fr2 J2 qs2 pw, A fr2 → fr2.get 10 = .int .i64 ((a + 1 : Nat) : Int) → fr2.get 9 = pw → RcS (H.length + 2) (H.length + 1) H1.length p l.length H J2 qs2 (stepT cs[a] (runS (l, []) (cs.take a)).1) pw ((runS (l, []) (cs.take a)).2 ++ stepP cs[a] (runS (l, []) (cs.take a)).1 (runS (l, []) (cs.take a)).1.length) → R fr2 J2 := fun fr2 J2 qs2 pw ha q1 q2 q3 => hR fr2 J2 ha (cs.length - (a + 1)) (by omega) ⟨a + 1, qs2, pw, rfl, by omega, q1, q2, by rw [hstep]; exact q3⟩
  clear hR hstep hplen hsmall hslen
  generalize (runS (l, []) (cs.take a)).2 = P at *
  generalize (runS (l, []) (cs.take a)).1 = lt at *
  generalize cs[a] = c at *
  rw [chgE_cells] at e1
  repeat' (first | simp only [go_sem, Nat.reduceLT, Nat.reduceEqDiff, Nat.reduceAdd, Nat.reduceMul, Nat.reduceSub, Nat.reduceLeDiff, Int.reduceToNat, Int.reduceNeg, Int.reduceLT, Int.reduceLE, Int.reduceEq, reduceCtorEq, Int.natCast_zero, Int.natCast_one, Int.cast_ofNat_Int, Bool.not_not, false_eq_decide, true_eq_decide, hread0, hreadk, read_cons0, read_consk, astore_h0, astore_hk, hget0, hgetk, hset0, hsetk, hlen, hcat, Nat.add_assoc, Nat.add_zero, Nat.zero_add, List.length_append, and_true, true_and, AV.flat, hpo, one_solid hpo, one_cells hpo, *, -hK, -hns, -hok, -S, -hpl, -hsm, -hsl, -back] | with_reducible refine IfB_dec (fun h => ?_) (fun h => ?_) | with_reducible refine Guard_dec (fun h => ?_) (fun h => ?_) | with_reducible refine Guard_ndec (fun h => ?_) (fun h => ?_) | with_reducible refine Guard_not (fun h => ?_) (fun h => ?_) | with_reducible refine IfB_ndec (fun h => ?_) (fun h => ?_) | with_reducible refine IfB_not (fun h => ?_) (fun h => ?_) | with_reducible refine Guard_split (fun h => ?_) (fun h => ?_) | with_reducible refine IfB_split (fun h => ?_) (fun h => ?_))
  have hA0 := hA
  have o1 := s1
  have o4 := s4
  have o8 := s8
  refine WX_loopS [1, 4, 8, 10] (fun k fr' J2 => ∃ (b : Nat) (q2 : List (AV × AV)) (pw : AV), k = lt.length - b ∧ b ≤ lt.length ∧ fr'.get 11 = .int .i64 b ∧ fr'.get 9 = pw ∧ RcS (H.length + 2) (H.length + 1) H1.length p l.length H J2 q2 (mixT c lt b) pw (P ++ stepP c lt b) ∧ A fr') lt.length ⟨0, qs, pv, rfl, by omega, by simp only [go_sem, Nat.reduceLT, Nat.reduceEqDiff, Nat.reduceAdd, Nat.reduceMul, Nat.reduceSub, Nat.reduceLeDiff, Int.reduceToNat, Int.reduceNeg, Int.reduceLT, Int.reduceLE, Int.reduceEq, reduceCtorEq]; rfl, by simp only [go_sem, Nat.reduceLT, Nat.reduceEqDiff, Nat.reduceAdd, Nat.reduceMul, Nat.reduceSub, Nat.reduceLeDiff, Int.reduceToNat, Int.reduceNeg, Int.reduceLT, Int.reduceLE, Int.reduceEq, reduceCtorEq, f9], by rw [mixT_zero]; simp only [stepP, List.append_nil]; exact S, by (repeat (first | exact hs | refine hA _ _ _ (by decide) ?_))⟩ ?_
  clear hg hs hA s1 s4 s8 S hpo f9
  rintro k fr' J2 A2 R2 hA hs hg hR2 ⟨b, q2, pw, rfl, hbl, f11, f9, S, hAf⟩
  have s1 := hg 1 (by decide)
  have s4 := hg 4 (by decide)
  have s8 := hg 8 (by decide)
  have s10 := hg 10 (by decide)
  simp only [Fr.get_put, Fr.get_init, List.getD_cons_zero, List.getD_cons_succ, Nat.reduceEqDiff, if_true, if_false] at s1 s4 s8 s10
  rw [o1] at s1
  rw [o4] at s4
  rw [o8] at s8
  rw [f10] at s10
  clear o1 o4 o8 f10
  refine wx_sound hT _ ?_
  have hpo := S.pu.one
  have gx := S.bx
  by_cases hlb : b < lt.length
  rotate_left
  · have i2 : ¬ (b : Int) < l.length := by omega
    have hbe : b = lt.length := by omega
    rw [hbe, mixT_all] at S
    repeat' (first | simp only [go_sem, Nat.reduceLT, Nat.reduceEqDiff, Nat.reduceAdd, Nat.reduceMul, Nat.reduceSub, Nat.reduceLeDiff, Int.reduceToNat, Int.reduceNeg, Int.reduceLT, Int.reduceLE, Int.reduceEq, reduceCtorEq, Int.natCast_zero, Int.natCast_one, Int.cast_ofNat_Int, Bool.not_not, false_eq_decide, true_eq_decide, hread0, hreadk, read_cons0, read_consk, astore_h0, astore_hk, hget0, hgetk, hset0, hsetk, hlen, hcat, Nat.add_assoc, Nat.add_zero, Nat.zero_add, List.length_append, and_true, true_and, AV.flat, gx, get_app gx, read_get gx, read_app gx, hpo, one_solid hpo, one_cells hpo, *, -hK, -hns, -hok, -S, -hpl, -hsm, -hsl, -back, -hbe] | with_reducible refine IfB_dec (fun h => ?_) (fun h => ?_) | with_reducible refine Guard_dec (fun h => ?_) (fun h => ?_) | with_reducible refine Guard_ndec (fun h => ?_) (fun h => ?_) | with_reducible refine Guard_not (fun h => ?_) (fun h => ?_) | with_reducible refine IfB_ndec (fun h => ?_) (fun h => ?_) | with_reducible refine IfB_not (fun h => ?_) (fun h => ?_) | with_reducible refine Guard_split (fun h => ?_) (fun h => ?_) | with_reducible refine IfB_split (fun h => ?_) (fun h => ?_))
    exact back _ _ _ _ (by repeat (first | exact hAf | refine hA0 _ _ _ (by decide) ?_)) (by simp only [go_sem, Nat.reduceLT, Nat.reduceEqDiff, Nat.reduceAdd, Nat.reduceMul, Nat.reduceSub, Nat.reduceLeDiff, Int.reduceToNat, Int.reduceNeg, Int.reduceLT, Int.reduceLE, Int.reduceEq, reduceCtorEq]) (by simp only [go_sem, Nat.reduceLT, Nat.reduceEqDiff, Nat.reduceAdd, Nat.reduceMul, Nat.reduceSub, Nat.reduceLeDiff, Int.reduceToNat, Int.reduceNeg, Int.reduceLT, Int.reduceLE, Int.reduceEq, reduceCtorEq]; exact f9) S
  have i2 : (b : Int) < l.length := by omega
  have hlbl : b < l.length := by omega
  have e2 := TkO.addr (T' := T) (p := p) se22 hlbl
  have e4 := inc_id hlbl (by omega)
  have ht : (mixT c lt b)[b]? = some lt[b] := mixT_at hlb
  obtain ⟨x, hx⟩ : ∃ x, q2[b]? = some x := ⟨_, List.getElem?_eq_getElem (by rw [S.tk.len, mixT_len]; exact hlb)⟩
  have hsp := stepP_len c lt b hbl
  have hmst := mixT_step (c := c) hlb
  have hpst : P ++ stepP c lt b ++ pushT c b lt[b].ns = P ++ stepP c lt (b + 1) := by rw [stepP, tkAt_eq hlb, List.append_assoc]
  have hs16 := hsm _ (List.getElem_mem hlb)
  have hnx : nsum lt ≤ 128 := by omega
  have back2 : ∀ fr2 J3 q3 pz, A2 fr2 → fr2.get 11 = .int .i64 ((b + 1 : Nat) : Int) → fr2.get 9 = pz → RcS (H.length + 2) (H.length + 1) H1.length p l.length H J3 q3 ((mixT c lt b).set b (dropT c lt[b])) pz (P ++ stepP c lt b ++ pushT c b lt[b].ns) → A fr2 → R2 fr2 J3 := fun fr2 J3 q3 pz ha j1 j2 j3 j5 => hR2 fr2 J3 ha (lt.length - (b + 1)) (by omega) ⟨b + 1, q3, pz, rfl, by omega, j1, j2, by rw [← hmst, ← hpst]; exact j3, j5⟩
  clear hR2 back hmst hpst hsm
  unfold dropT at back2
  have hxb := fun b h => S.blks (b := b) hx h
  have hPl : (P ++ stepP c lt b).length ≤ 128 := by rw [List.length_append]; omega
  generalize P ++ stepP c lt b = P1 at *
  generalize mixT c lt b = lm at *
  generalize lt[b] = t at *
  obtain ⟨hon, -, x3, x4⟩ := S.tk.el b x t hx ht
  replace x3 := x3 hlbl
  have hxo := x3.one
  have rN := S.tk.readN hx
  have e6 := x3.alen (by decide) tk34
  repeat' (first | simp only [go_sem, Nat.reduceLT, Nat.reduceEqDiff, Nat.reduceAdd, Nat.reduceMul, Nat.reduceSub, Nat.reduceLeDiff, Int.reduceToNat, Int.reduceNeg, Int.reduceLT, Int.reduceLE, Int.reduceEq, reduceCtorEq, Int.natCast_zero, Int.natCast_one, Int.cast_ofNat_Int, Bool.not_not, false_eq_decide, true_eq_decide, hread0, hreadk, read_cons0, read_consk, astore_h0, astore_hk, hget0, hgetk, hset0, hsetk, hlen, hcat, Nat.add_assoc, Nat.add_zero, Nat.zero_add, List.length_append, and_true, true_and, AV.flat, gx, get_app gx, read_get gx, read_app gx, hpo, one_solid hpo, one_cells hpo, hxo, one_solid hxo, one_cells hxo, *, -hK, -hns, -hok, -S, -hpl, -hsl, -back2, -ht, -hx, -hsp, -hs16, -hnx, -hxb, -hPl, -hon, -x3, -x4] | with_reducible refine IfB_dec (fun h => ?_) (fun h => ?_) | with_reducible refine Guard_dec (fun h => ?_) (fun h => ?_) | with_reducible refine Guard_ndec (fun h => ?_) (fun h => ?_) | with_reducible refine Guard_not (fun h => ?_) (fun h => ?_) | with_reducible refine IfB_ndec (fun h => ?_) (fun h => ?_) | with_reducible refine IfB_not (fun h => ?_) (fun h => ?_) | with_reducible refine Guard_split (fun h => ?_) (fun h => ?_) | with_reducible refine IfB_split (fun h => ?_) (fun h => ?_))
  have hns2 : t.ns.length ≤ 16 := hs16
  have hB0 := hA
  have o1 := s1
  have o4 := s4
  have o8 := s8
  have o10 := s10
  refine WX_loopS [1, 4, 8, 10, 11, 13] (fun k fr' J3 => ∃ (q : Nat) (pz w : AV), k = t.ns.length - q ∧ q ≤ t.ns.length ∧ fr'.get 14 = .int .i64 q ∧ fr'.get 9 = pz ∧ fr'.get 12 = w ∧ RcS (H.length + 2) (H.length + 1) H1.length p l.length H J3 q2 lm pz (P1 ++ pushT c b (t.ns.take q)) ∧ RcW (H.length + 2) H1.length p J3 q2 pz w ((t.ns.take q).filter fun n => !tkHit c n) ∧ A fr' ∧ A2 fr') t.ns.length ⟨0, pw, .nils, rfl, by omega, by simp only [go_sem, Nat.reduceLT, Nat.reduceEqDiff, Nat.reduceAdd, Nat.reduceMul, Nat.reduceSub, Nat.reduceLeDiff, Int.reduceToNat, Int.reduceNeg, Int.reduceLT, Int.reduceLE, Int.reduceEq, reduceCtorEq]; rfl, by simp only [go_sem, Nat.reduceLT, Nat.reduceEqDiff, Nat.reduceAdd, Nat.reduceMul, Nat.reduceSub, Nat.reduceLeDiff, Int.reduceToNat, Int.reduceNeg, Int.reduceLT, Int.reduceLE, Int.reduceEq, reduceCtorEq, f9], by simp only [go_sem, Nat.reduceLT, Nat.reduceEqDiff, Nat.reduceAdd, Nat.reduceMul, Nat.reduceSub, Nat.reduceLeDiff, Int.reduceToNat, Int.reduceNeg, Int.reduceLT, Int.reduceLE, Int.reduceEq, reduceCtorEq], by rw [List.take_zero]; simp only [pushT, List.filter_nil, List.map_nil, List.append_nil]; exact S, RcW.nil, by repeat (first | exact hAf | refine hA0 _ _ _ (by decide) ?_), by (repeat (first | exact hs | refine hA _ _ _ (by decide) ?_))⟩ ?_
  clear hg hs hA s1 s4 s8 s10 S hpo f9 gx rN x3 x4 hxb
  rintro k fr' J3 A3 R3 hA hs hg hR3 ⟨q, pz, w, rfl, hq, f14, f9, f12, S, W, hAf3, hBf3⟩
  have s1 := hg 1 (by decide)
  have s4 := hg 4 (by decide)
  have s8 := hg 8 (by decide)
  have s10 := hg 10 (by decide)
  have s11 := hg 11 (by decide)
  have s13 := hg 13 (by decide)
  simp only [Fr.get_put, Fr.get_init, List.getD_cons_zero, List.getD_cons_succ, Nat.reduceEqDiff, if_true, if_false] at s1 s4 s8 s10 s11 s13
  rw [o1] at s1
  rw [o4] at s4
  rw [o8] at s8
  rw [o10] at s10
  rw [f11] at s11
  clear o1 o4 o8 o10 f11
  refine wx_sound hT _ ?_
  have hpo := S.pu.one
  have hwo := W.own.one
  have gx := S.bx
  obtain ⟨-, -, x3, -⟩ := S.tk.el b x t hx ht
  replace x3 := x3 hlbl
  by_cases hlq : q < t.ns.length
  rotate_left
  · have i3 : ¬ (q : Int) < t.ns.length := by omega
    have hqe : q = t.ns.length := by omega
    rw [hqe, List.take_length] at S W
    obtain ⟨G2, w1, S2⟩ := S.store W hx ht hlbl (te := 34) (by simp only [asize, td34, Option.map_some])
    repeat' (first | simp only [go_sem, Nat.reduceLT, Nat.reduceEqDiff, Nat.reduceAdd, Nat.reduceMul, Nat.reduceSub, Nat.reduceLeDiff, Int.reduceToNat, Int.reduceNeg, Int.reduceLT, Int.reduceLE, Int.reduceEq, reduceCtorEq, Int.natCast_zero, Int.natCast_one, Int.cast_ofNat_Int, Bool.not_not, false_eq_decide, true_eq_decide, hread0, hreadk, read_cons0, read_consk, astore_h0, astore_hk, hget0, hgetk, hset0, hsetk, hlen, hcat, Nat.add_assoc, Nat.add_zero, Nat.zero_add, List.length_append, and_true, true_and, AV.flat, gx, get_app gx, read_get gx, read_app gx, hpo, one_solid hpo, one_cells hpo, hwo, one_solid hwo, one_cells hwo, hxo, one_solid hxo, one_cells hxo, *, -hK, -hns, -hok, -hpl, -hsl, -ht, -hx, -hsp, -hs16, -hnx, -hPl, -hon, -S, -W, -S2, -x3, -hqe, -back2] | with_reducible refine IfB_dec (fun h => ?_) (fun h => ?_) | with_reducible refine Guard_dec (fun h => ?_) (fun h => ?_) | with_reducible refine Guard_ndec (fun h => ?_) (fun h => ?_) | with_reducible refine Guard_not (fun h => ?_) (fun h => ?_) | with_reducible refine IfB_ndec (fun h => ?_) (fun h => ?_) | with_reducible refine IfB_not (fun h => ?_) (fun h => ?_) | with_reducible refine Guard_split (fun h => ?_) (fun h => ?_) | with_reducible refine IfB_split (fun h => ?_) (fun h => ?_))
    exact back2 _ _ _ _ (by repeat (first | exact hBf3 | refine hB0 _ _ _ (by decide) ?_)) (by simp only [go_sem, Nat.reduceLT, Nat.reduceEqDiff, Nat.reduceAdd, Nat.reduceMul, Nat.reduceSub, Nat.reduceLeDiff, Int.reduceToNat, Int.reduceNeg, Int.reduceLT, Int.reduceLE, Int.reduceEq, reduceCtorEq]) (by simp only [go_sem, Nat.reduceLT, Nat.reduceEqDiff, Nat.reduceAdd, Nat.reduceMul, Nat.reduceSub, Nat.reduceLeDiff, Int.reduceToNat, Int.reduceNeg, Int.reduceLT, Int.reduceLE, Int.reduceEq, reduceCtorEq]; exact f9) S2 (by repeat (first | exact hAf3 | refine hA0 _ _ _ (by decide) ?_))
  have i3 : (q : Int) < t.ns.length := by omega
  have e7 := inc_id hlq (by omega)
  obtain ⟨nb, no, a1, a2, -⟩ := x3.at_ (by decide) se34 hlq (k := .i64) rfl
  rw [show nmE.sz = 2 from rfl, nmE_cells] at a2
  have tc := fun J => refTouches_spec c t.ns[q] J
  have hst := pushT_step (c := c) (i := b) hlq
  have hpl2 := pushT_len c b (t.ns.take q)
  rw [List.length_take] at hpl2
  have hfl := List.length_filter_le (fun n => !tkHit c n) (t.ns.take q)
  rw [List.length_take] at hfl
  have hfs : (t.ns.take (q + 1)).filter (fun n => !tkHit c n) = (t.ns.take q).filter (fun n => !tkHit c n) ++ if tkHit c t.ns[q] = true then [] else [t.ns[q]] := by
    rw [List.take_succ_eq_append_getElem hlq, List.filter_append]; congr 1; cases hh : tkHit c t.ns[q] <;> simp [hh]
  have back3 : ∀ fr2 J4 pz2 w2, A3 fr2 → fr2.get 14 = .int .i64 ((q + 1 : Nat) : Int) → fr2.get 9 = pz2 → fr2.get 12 = w2 → RcS (H.length + 2) (H.length + 1) H1.length p l.length H J4 q2 lm pz2 (P1 ++ pushT c b (t.ns.take (q + 1))) → RcW (H.length + 2) H1.length p J4 q2 pz2 w2 ((t.ns.take (q + 1)).filter fun n => !tkHit c n) → A fr2 → A2 fr2 → R3 fr2 J4 := fun fr2 J4 pz2 w2 ha j1 j2 j3 j4 j5 j6 j7 => hR3 fr2 J4 ha (t.ns.length - (q + 1)) (by omega) ⟨q + 1, pz2, w2, rfl, by omega, j1, j2, j3, j4, j5, j6, j7⟩
  rw [hst, ← List.append_assoc, hfs] at back3
  clear hR3 hst hfs back2
  have hPl2 : (P1 ++ pushT c b (t.ns.take q)).length ≤ 200 := by rw [List.length_append]; omega
  generalize P1 ++ pushT c b (t.ns.take q) = P2 at *
  generalize (t.ns.take q).filter (fun n => !tkHit c n) = Z at *
  generalize t.ns[q] = y at *
  have hml : H.length + 2 ≤ J3.length := by have := S.tk.lt; have := S.tk.ge; omega
  obtain ⟨kind, ten, ikey, ival, ifl, idue, iuniq, key, why, to, prim⟩ := c
  obtain ⟨yt, yk⟩ := y
  generalize hh : tkHit _ (⟨yt, yk⟩ : Nm) = hit at *
  unfold Chg.av Nm.av at tc
  simp only at tc e1 a2
  cases hit with
  | true =>
    rw [if_pos rfl, if_pos rfl, List.append_nil] at back3
    repeat' (first | simp only [go_sem, Nat.reduceLT, Nat.reduceEqDiff, Nat.reduceAdd, Nat.reduceMul, Nat.reduceSub, Nat.reduceLeDiff, Int.reduceToNat, Int.reduceNeg, Int.reduceLT, Int.reduceLE, Int.reduceEq, reduceCtorEq, Int.natCast_zero, Int.natCast_one, Int.cast_ofNat_Int, Bool.not_not, false_eq_decide, true_eq_decide, hread0, hreadk, read_cons0, read_consk, astore_h0, astore_hk, hget0, hgetk, hset0, hsetk, hlen, hcat, Nat.add_assoc, Nat.add_zero, Nat.zero_add, List.length_append, and_true, true_and, AV.flat, gx, get_app gx, read_get gx, read_app gx, hpo, one_solid hpo, one_cells hpo, hwo, one_solid hwo, one_cells hwo, hxo, one_solid hxo, one_cells hxo, *, -hK, -hns, -hok, -hpl, -hsl, -ht, -hx, -hsp, -hs16, -hnx, -hPl, -hon, -S, -W, -x3, -hh, -tc, -hpl2, -hfl, -back3, -hPl2, -hml] | with_reducible refine IfB_dec (fun h => ?_) (fun h => ?_) | with_reducible refine Guard_dec (fun h => ?_) (fun h => ?_) | with_reducible refine Guard_ndec (fun h => ?_) (fun h => ?_) | with_reducible refine Guard_not (fun h => ?_) (fun h => ?_) | with_reducible refine IfB_ndec (fun h => ?_) (fun h => ?_) | with_reducible refine IfB_not (fun h => ?_) (fun h => ?_) | with_reducible refine Guard_split (fun h => ?_) (fun h => ?_) | with_reducible refine IfB_split (fun h => ?_) (fun h => ?_))
    refine WX_rows hT hmix [(0, none), (1, none), (2, none), (3, none), (4, none), (5, none), (6, none), (7, none), (8, some [true, true, true, true, true, true, true, true])] (by kernel_rfl) ?_
    repeat' (first | simp only [go_sem, Nat.reduceLT, Nat.reduceEqDiff, Nat.reduceAdd, Nat.reduceMul, Nat.reduceSub, Nat.reduceLeDiff, Int.reduceToNat, Int.reduceNeg, Int.reduceLT, Int.reduceLE, Int.reduceEq, reduceCtorEq, Int.natCast_zero, Int.natCast_one, Int.cast_ofNat_Int, Bool.not_not, false_eq_decide, true_eq_decide, hread0, hreadk, read_cons0, read_consk, astore_h0, astore_hk, hget0, hgetk, hset0, hsetk, hlen, hcat, Nat.add_assoc, Nat.add_zero, Nat.zero_add, List.length_append, and_true, true_and, AV.flat, gx, get_app gx, read_get gx, read_app gx, hpo, one_solid hpo, one_cells hpo, hwo, one_solid hwo, one_cells hwo, hxo, one_solid hxo, one_cells hxo, *, -hK, -hns, -hok, -hpl, -hsl, -ht, -hx, -hsp, -hs16, -hnx, -hPl, -hon, -S, -W, -x3, -hh, -tc, -hpl2, -hfl, -back3, -hPl2, -hml] | refine WC.call (tc _) ?_ | with_reducible refine IfB_dec (fun h => ?_) (fun h => ?_) | with_reducible refine Guard_dec (fun h => ?_) (fun h => ?_) | with_reducible refine Guard_ndec (fun h => ?_) (fun h => ?_) | with_reducible refine Guard_not (fun h => ?_) (fun h => ?_) | with_reducible refine IfB_ndec (fun h => ?_) (fun h => ?_) | with_reducible refine IfB_not (fun h => ?_) (fun h => ?_) | with_reducible refine Guard_split (fun h => ?_) (fun h => ?_) | with_reducible refine IfB_split (fun h => ?_) (fun h => ?_))
    refine append1_enc (E := puE) (x := pushN b ⟨yt, yk⟩) S.pu rfl se31 az47 td47 tk31 rfl rfl (by decide) (by show (P2.length + 1) * 99 ≤ _; omega) hml ?_
    intro v5 H5 o5 k5 hn5
    have hv5 := o5.one
    have S5 := S.push k5 o5 hn5
    have W5 := W.push S k5 hn5
    repeat' (first | simp only [go_sem, Nat.reduceLT, Nat.reduceEqDiff, Nat.reduceAdd, Nat.reduceMul, Nat.reduceSub, Nat.reduceLeDiff, Int.reduceToNat, Int.reduceNeg, Int.reduceLT, Int.reduceLE, Int.reduceEq, reduceCtorEq, Int.natCast_zero, Int.natCast_one, Int.cast_ofNat_Int, Bool.not_not, false_eq_decide, true_eq_decide, hread0, hreadk, read_cons0, read_consk, astore_h0, astore_hk, hget0, hgetk, hset0, hsetk, hlen, hcat, Nat.add_assoc, Nat.add_zero, Nat.zero_add, List.length_append, and_true, true_and, AV.flat, hpo, one_solid hpo, one_cells hpo, hwo, one_solid hwo, one_cells hwo, hxo, one_solid hxo, one_cells hxo, hv5, one_solid hv5, one_cells hv5, *, -hK, -hns, -hok, -hpl, -hsl, -ht, -hx, -hsp, -hs16, -hnx, -hPl, -hon, -S, -W, -x3, -hh, -tc, -hpl2, -hfl, -back3, -hPl2, -hml, -o5, -k5, -hn5, -S5, -W5, -gx, -a2] | with_reducible refine IfB_dec (fun h => ?_) (fun h => ?_) | with_reducible refine Guard_dec (fun h => ?_) (fun h => ?_) | with_reducible refine Guard_ndec (fun h => ?_) (fun h => ?_) | with_reducible refine Guard_not (fun h => ?_) (fun h => ?_) | with_reducible refine IfB_ndec (fun h => ?_) (fun h => ?_) | with_reducible refine IfB_not (fun h => ?_) (fun h => ?_) | with_reducible refine Guard_split (fun h => ?_) (fun h => ?_) | with_reducible refine IfB_split (fun h => ?_) (fun h => ?_))
    exact back3 _ _ _ _ (by (repeat (first | exact hs | refine hA _ _ _ (by decide) ?_))) (by simp only [go_sem, Nat.reduceLT, Nat.reduceEqDiff, Nat.reduceAdd, Nat.reduceMul, Nat.reduceSub, Nat.reduceLeDiff, Int.reduceToNat, Int.reduceNeg, Int.reduceLT, Int.reduceLE, Int.reduceEq, reduceCtorEq]) rfl (by simp only [go_sem, Nat.reduceLT, Nat.reduceEqDiff, Nat.reduceAdd, Nat.reduceMul, Nat.reduceSub, Nat.reduceLeDiff, Int.reduceToNat, Int.reduceNeg, Int.reduceLT, Int.reduceLE, Int.reduceEq, reduceCtorEq]; exact f12) (by simp only [go_sem, Nat.reduceLT, Nat.reduceEqDiff, Nat.reduceAdd, Nat.reduceMul, Nat.reduceSub, Nat.reduceLeDiff, Int.reduceToNat, Int.reduceNeg, Int.reduceLT, Int.reduceLE, Int.reduceEq, reduceCtorEq]; exact S5) (by simp only [go_sem, Nat.reduceLT, Nat.reduceEqDiff, Nat.reduceAdd, Nat.reduceMul, Nat.reduceSub, Nat.reduceLeDiff, Int.reduceToNat, Int.reduceNeg, Int.reduceLT, Int.reduceLE, Int.reduceEq, reduceCtorEq]; exact W5) (by repeat (first | exact hAf3 | refine hA0 _ _ _ (by decide) ?_)) (by repeat (first | exact hBf3 | refine hB0 _ _ _ (by decide) ?_))
  | false =>
    rw [if_neg (by decide), if_neg (by decide), List.append_nil] at back3
    repeat' (first | simp only [go_sem, Nat.reduceLT, Nat.reduceEqDiff, Nat.reduceAdd, Nat.reduceMul, Nat.reduceSub, Nat.reduceLeDiff, Int.reduceToNat, Int.reduceNeg, Int.reduceLT, Int.reduceLE, Int.reduceEq, reduceCtorEq, Int.natCast_zero, Int.natCast_one, Int.cast_ofNat_Int, Bool.not_not, false_eq_decide, true_eq_decide, hread0, hreadk, read_cons0, read_consk, astore_h0, astore_hk, hget0, hgetk, hset0, hsetk, hlen, hcat, Nat.add_assoc, Nat.add_zero, Nat.zero_add, List.length_append, and_true, true_and, AV.flat, gx, get_app gx, read_get gx, read_app gx, hpo, one_solid hpo, one_cells hpo, hwo, one_solid hwo, one_cells hwo, hxo, one_solid hxo, one_cells hxo, *, -hK, -hns, -hok, -hpl, -hsl, -ht, -hx, -hsp, -hs16, -hnx, -hPl, -hon, -S, -W, -x3, -hh, -tc, -hpl2, -hfl, -back3, -hPl2, -hml] | with_reducible refine IfB_dec (fun h => ?_) (fun h => ?_) | with_reducible refine Guard_dec (fun h => ?_) (fun h => ?_) | with_reducible refine Guard_ndec (fun h => ?_) (fun h => ?_) | with_reducible refine Guard_not (fun h => ?_) (fun h => ?_) | with_reducible refine IfB_ndec (fun h => ?_) (fun h => ?_) | with_reducible refine IfB_not (fun h => ?_) (fun h => ?_) | with_reducible refine Guard_split (fun h => ?_) (fun h => ?_) | with_reducible refine IfB_split (fun h => ?_) (fun h => ?_))
    refine WX_rows hT hmix [(0, none), (1, none), (2, none), (3, none), (4, none), (5, none), (6, none), (7, none), (8, some [true, true, true, true, true, true, true, true])] (by kernel_rfl) ?_
    repeat' (first | simp only [go_sem, Nat.reduceLT, Nat.reduceEqDiff, Nat.reduceAdd, Nat.reduceMul, Nat.reduceSub, Nat.reduceLeDiff, Int.reduceToNat, Int.reduceNeg, Int.reduceLT, Int.reduceLE, Int.reduceEq, reduceCtorEq, Int.natCast_zero, Int.natCast_one, Int.cast_ofNat_Int, Bool.not_not, false_eq_decide, true_eq_decide, hread0, hreadk, read_cons0, read_consk, astore_h0, astore_hk, hget0, hgetk, hset0, hsetk, hlen, hcat, Nat.add_assoc, Nat.add_zero, Nat.zero_add, List.length_append, and_true, true_and, AV.flat, gx, get_app gx, read_get gx, read_app gx, hpo, one_solid hpo, one_cells hpo, hwo, one_solid hwo, one_cells hwo, hxo, one_solid hxo, one_cells hxo, *, -hK, -hns, -hok, -hpl, -hsl, -ht, -hx, -hsp, -hs16, -hnx, -hPl, -hon, -S, -W, -x3, -hh, -tc, -hpl2, -hfl, -back3, -hPl2, -hml] | refine WC.call (tc _) ?_ | with_reducible refine IfB_dec (fun h => ?_) (fun h => ?_) | with_reducible refine Guard_dec (fun h => ?_) (fun h => ?_) | with_reducible refine Guard_ndec (fun h => ?_) (fun h => ?_) | with_reducible refine Guard_not (fun h => ?_) (fun h => ?_) | with_reducible refine IfB_ndec (fun h => ?_) (fun h => ?_) | with_reducible refine IfB_not (fun h => ?_) (fun h => ?_) | with_reducible refine Guard_split (fun h => ?_) (fun h => ?_) | with_reducible refine IfB_split (fun h => ?_) (fun h => ?_))
    refine append1_enc (E := nmE) (x := ⟨yt, yk⟩) W.own rfl se34 az38 td38 tk34 rfl rfl (by decide) (by show (Z.length + 1) * 50 ≤ _; omega) hml ?_
    intro v5 H5 o5 k5 hn5
    have hv5 := o5.one
    obtain ⟨W5, S5⟩ := W.more S k5 o5 hn5
    repeat' (first | simp only [go_sem, Nat.reduceLT, Nat.reduceEqDiff, Nat.reduceAdd, Nat.reduceMul, Nat.reduceSub, Nat.reduceLeDiff, Int.reduceToNat, Int.reduceNeg, Int.reduceLT, Int.reduceLE, Int.reduceEq, reduceCtorEq, Int.natCast_zero, Int.natCast_one, Int.cast_ofNat_Int, Bool.not_not, false_eq_decide, true_eq_decide, hread0, hreadk, read_cons0, read_consk, astore_h0, astore_hk, hget0, hgetk, hset0, hsetk, hlen, hcat, Nat.add_assoc, Nat.add_zero, Nat.zero_add, List.length_append, and_true, true_and, AV.flat, hpo, one_solid hpo, one_cells hpo, hwo, one_solid hwo, one_cells hwo, hxo, one_solid hxo, one_cells hxo, hv5, one_solid hv5, one_cells hv5, *, -hK, -hns, -hok, -hpl, -hsl, -ht, -hx, -hsp, -hs16, -hnx, -hPl, -hon, -S, -W, -x3, -hh, -tc, -hpl2, -hfl, -back3, -hPl2, -hml, -o5, -k5, -hn5, -S5, -W5, -gx, -a2] | with_reducible refine IfB_dec (fun h => ?_) (fun h => ?_) | with_reducible refine Guard_dec (fun h => ?_) (fun h => ?_) | with_reducible refine Guard_ndec (fun h => ?_) (fun h => ?_) | with_reducible refine Guard_not (fun h => ?_) (fun h => ?_) | with_reducible refine IfB_ndec (fun h => ?_) (fun h => ?_) | with_reducible refine IfB_not (fun h => ?_) (fun h => ?_) | with_reducible refine Guard_split (fun h => ?_) (fun h => ?_) | with_reducible refine IfB_split (fun h => ?_) (fun h => ?_))
    exact back3 _ _ _ _ (by (repeat (first | exact hs | refine hA _ _ _ (by decide) ?_))) (by simp only [go_sem, Nat.reduceLT, Nat.reduceEqDiff, Nat.reduceAdd, Nat.reduceMul, Nat.reduceSub, Nat.reduceLeDiff, Int.reduceToNat, Int.reduceNeg, Int.reduceLT, Int.reduceLE, Int.reduceEq, reduceCtorEq]) (by simp only [go_sem, Nat.reduceLT, Nat.reduceEqDiff, Nat.reduceAdd, Nat.reduceMul, Nat.reduceSub, Nat.reduceLeDiff, Int.reduceToNat, Int.reduceNeg, Int.reduceLT, Int.reduceLE, Int.reduceEq, reduceCtorEq]; exact f9) rfl S5 (by simp only [go_sem, Nat.reduceLT, Nat.reduceEqDiff, Nat.reduceAdd, Nat.reduceMul, Nat.reduceSub, Nat.reduceLeDiff, Int.reduceToNat, Int.reduceNeg, Int.reduceLT, Int.reduceLE, Int.reduceEq, reduceCtorEq]; exact W5) (by repeat (first | exact hAf3 | refine hA0 _ _ _ (by decide) ?_)) (by repeat (first | exact hBf3 | refine hB0 _ _ _ (by decide) ?_))
theorem refChange_spec (l : List Tk) (cs : List Chg) (hn : l.length ≤ 140737488355328) (hns : ∀ t ∈ l, t.ns.length ≤ 140737488355328) (hcn : cs.length ≤ 140737488355328) (hok : ∀ c ∈ cs, c.Ok) (H : Heap) :
    WC Try.prog 34 [trAv l, chgE.lst cs] H fun r H' => r = .tup [trAv (trChg l cs).1.1, puE.lst (trChg l cs).1.2, .int .i64 (trChg l cs).2] ∧ H' = H :=
  WC_val fun K hK => (refChange_own l cs hn hns hcn hok H).mono fun r H' ⟨⟨v, pv, e, o, op⟩, k⟩ => hK r H' (by subst e; exact Thaw.tup_row ⟨Thaw.agg_row ⟨o.thaw, trivial⟩, op.thaw (by decide), .int _ _, trivial⟩) k
end Go.Proofs.Ytccfhighlpfdmaa

