import Derived.Test.YtccfhighlpfdmaaTrkA2
set_option linter.unusedSimpArgs false
set_option linter.unusedVariables false
set_option maxRecDepth 100000
set_option maxHeartbeats 4000000
namespace Go.Proofs.Ytccfhighlpfdmaa
open Go Go.Proofs Go.Proofs.PI
theorem change_own (l : List Tk) (cs : List Chg) (hn : l.length ≤ 140737488355328) (hns : ∀ t ∈ l, t.ns.length ≤ 140737488355328) (hcn : cs.length ≤ 140737488355328) (hok : ∀ c ∈ cs, c.Ok) (H : Heap) :
    WC Try.prog 12 [trAv l, chgE.lst cs] H fun r H' => (∃ v pv, r = .tup [.agg [v], pv, .int .i64 (trChg l cs).2] ∧ TrOut H.length H' v (trChg l cs).1.1 ∧ OwnE puE H.length H' pv (trChg l cs).1.2) ∧ Keep none H H' := by
  refine WC_of_K fun K hK => ?_
  have ck := fun J => trCheck_spec l hn hns J
  have cg := fun J => chgs_spec cs hcn hok J
  unfold trAv at *
  by_cases hm : trMay l
  rotate_left
  · rw [trE_bad hm] at ck
    have ha : trChg l cs = (([], []), 8) := by unfold trChg; rw [if_neg hm]
    rw [ha] at hK
    clear hm
    refine WC_of_body hT Try.func12 rfl (by simp [Try.f12]) (by simp [Try.f12]) (wx_sound hT _ ?_)
    simp only [Try.f12]
    repeat' (first | simp only [go_sem, Nat.reduceLT, Nat.reduceEqDiff, Nat.reduceAdd, Nat.reduceMul, Nat.reduceSub, Nat.reduceLeDiff, Int.reduceToNat, Int.reduceNeg, Int.reduceLT, Int.reduceLE, Int.reduceEq, reduceCtorEq, Int.natCast_zero, Int.natCast_one, Int.cast_ofNat_Int, Bool.not_not, false_eq_decide, true_eq_decide, hread0, hreadk, read_cons0, read_consk, astore_h0, astore_hk, hget0, hgetk, hset0, hsetk, hlen, hcat, Nat.add_assoc, Nat.add_zero, Nat.zero_add, List.length_append, and_true, true_and, AV.flat, *, -hK, -ck, -cg, -hns, -hok] | refine WC.call (ck _) ?_ | refine WC.call (cg _) ?_ | with_reducible refine IfB_dec (fun h => ?_) (fun h => ?_) | with_reducible refine Guard_dec (fun h => ?_) (fun h => ?_) | with_reducible refine Guard_ndec (fun h => ?_) (fun h => ?_) | with_reducible refine Guard_not (fun h => ?_) (fun h => ?_) | with_reducible refine IfB_ndec (fun h => ?_) (fun h => ?_) | with_reducible refine IfB_not (fun h => ?_) (fun h => ?_) | with_reducible refine Guard_split (fun h => ?_) (fun h => ?_) | with_reducible refine IfB_split (fun h => ?_) (fun h => ?_))
    exact hK _ _ ⟨⟨_, _, rfl, .inl ⟨rfl, rfl⟩, OwnE.nils _ _ _⟩, Keep.app _ _ _⟩
  rw [trE_ok hm] at ck
  by_cases he : (changesL cs).2 = 0
  rotate_left
  · have ha : trChg l cs = (([], []), (changesL cs).2) := by unfold trChg; rw [if_pos hm, if_neg he]
    rw [ha] at hK
    generalize changesL cs = ce at *
    obtain ⟨cb, e⟩ := ce
    simp only at he cg
    clear hm
    refine WC_of_body hT Try.func12 rfl (by simp [Try.f12]) (by simp [Try.f12]) (wx_sound hT _ ?_)
    simp only [Try.f12]
    repeat' (first | simp only [go_sem, Nat.reduceLT, Nat.reduceEqDiff, Nat.reduceAdd, Nat.reduceMul, Nat.reduceSub, Nat.reduceLeDiff, Int.reduceToNat, Int.reduceNeg, Int.reduceLT, Int.reduceLE, Int.reduceEq, reduceCtorEq, Int.natCast_zero, Int.natCast_one, Int.cast_ofNat_Int, Bool.not_not, false_eq_decide, true_eq_decide, hread0, hreadk, read_cons0, read_consk, astore_h0, astore_hk, hget0, hgetk, hset0, hsetk, hlen, hcat, Nat.add_assoc, Nat.add_zero, Nat.zero_add, List.length_append, and_true, true_and, AV.flat, *, -hK, -ck, -cg, -hns, -hok] | refine WC.call (ck _) ?_ | refine WC.call (cg _) ?_ | with_reducible refine IfB_dec (fun h => ?_) (fun h => ?_) | with_reducible refine Guard_dec (fun h => ?_) (fun h => ?_) | with_reducible refine Guard_ndec (fun h => ?_) (fun h => ?_) | with_reducible refine Guard_not (fun h => ?_) (fun h => ?_) | with_reducible refine IfB_ndec (fun h => ?_) (fun h => ?_) | with_reducible refine IfB_not (fun h => ?_) (fun h => ?_) | with_reducible refine Guard_split (fun h => ?_) (fun h => ?_) | with_reducible refine IfB_split (fun h => ?_) (fun h => ?_))
    exact hK _ _ ⟨⟨_, _, rfl, .inl ⟨rfl, rfl⟩, OwnE.nils _ _ _⟩, Keep.app _ _ _⟩
  have ha : trChg l cs = (runS (l, []) cs, 0) := by unfold trChg; rw [if_pos hm, if_pos he]
  rw [ha] at hK
  rw [he] at cg
  have hl1 := hm.1
  have hl2 := hm.2.1
  have hk16 : ∀ t ∈ l, t.ns.length ≤ 16 := fun t ht => (hm.2.2 t ht).1.2
  have tw := fun J => twin_own l hl1 (by omega) (fun t ht => by have := hk16 t ht; omega) J
  have hplen := fun cs => runS_plen hm cs
  have hsmall := fun cs => runS_small 16 cs (l, []) hk16
  have hslen := fun cs => runS_len cs (l, [])
  unfold trAv at tw
  clear hm he ha hk16
  generalize (changesL cs).1 = cb at *
  refine WC_of_body hT Try.func12 rfl (by simp [Try.f12]) (by simp [Try.f12]) (wx_sound hT _ ?_)
  simp only [Try.f12]
  repeat' (first | simp only [go_sem, Nat.reduceLT, Nat.reduceEqDiff, Nat.reduceAdd, Nat.reduceMul, Nat.reduceSub, Nat.reduceLeDiff, Int.reduceToNat, Int.reduceNeg, Int.reduceLT, Int.reduceLE, Int.reduceEq, reduceCtorEq, Int.natCast_zero, Int.natCast_one, Int.cast_ofNat_Int, Bool.not_not, false_eq_decide, true_eq_decide, hread0, hreadk, read_cons0, read_consk, astore_h0, astore_hk, hget0, hgetk, hset0, hsetk, hlen, hcat, Nat.add_assoc, Nat.add_zero, Nat.zero_add, List.length_append, and_true, true_and, AV.flat, *, -hK, -ck, -cg, -hns, -hok, -tw, -hplen, -hsmall, -hslen] | refine WC.call (ck _) ?_ | refine WC.call (cg _) ?_ | with_reducible refine IfB_dec (fun h => ?_) (fun h => ?_) | with_reducible refine Guard_dec (fun h => ?_) (fun h => ?_) | with_reducible refine Guard_ndec (fun h => ?_) (fun h => ?_) | with_reducible refine Guard_not (fun h => ?_) (fun h => ?_) | with_reducible refine IfB_ndec (fun h => ?_) (fun h => ?_) | with_reducible refine IfB_not (fun h => ?_) (fun h => ?_) | with_reducible refine Guard_split (fun h => ?_) (fun h => ?_) | with_reducible refine IfB_split (fun h => ?_) (fun h => ?_))
  refine (tw _).mono ?_
  rintro r H1 ⟨p, ps, rfl, o, k⟩
  clear ck cg tw
  have kH : Keep none H H1 := (Keep.app none H _).trans k
  have hl1' := k.len
  simp only [List.length_append, List.length_cons, List.length_nil] at hl1'
  have hbr := k.get (b := H.length + 1) (B := ⟨[.nils], 0, .full⟩) (by rw [hgetk]; rfl) (by simp)
  have u0 := o.lts
  have hpg := o.ge
  simp only [List.length_append, List.length_cons, List.length_nil] at hpg
  repeat' (first | simp only [go_sem, Nat.reduceLT, Nat.reduceEqDiff, Nat.reduceAdd, Nat.reduceMul, Nat.reduceSub, Nat.reduceLeDiff, Int.reduceToNat, Int.reduceNeg, Int.reduceLT, Int.reduceLE, Int.reduceEq, reduceCtorEq, Int.natCast_zero, Int.natCast_one, Int.cast_ofNat_Int, Bool.not_not, false_eq_decide, true_eq_decide, hread0, hreadk, read_cons0, read_consk, astore_h0, astore_hk, hget0, hgetk, hset0, hsetk, hlen, hcat, Nat.add_assoc, Nat.add_zero, Nat.zero_add, List.length_append, and_true, true_and, AV.flat, *, -hK, -hns, -hok, -hplen, -hsmall, -hslen, -o, -k, -kH, -hbr, -u0] | with_reducible refine IfB_dec (fun h => ?_) (fun h => ?_) | with_reducible refine Guard_dec (fun h => ?_) (fun h => ?_) | with_reducible refine Guard_ndec (fun h => ?_) (fun h => ?_) | with_reducible refine Guard_not (fun h => ?_) (fun h => ?_) | with_reducible refine IfB_ndec (fun h => ?_) (fun h => ?_) | with_reducible refine IfB_not (fun h => ?_) (fun h => ?_) | with_reducible refine Guard_split (fun h => ?_) (fun h => ?_) | with_reducible refine IfB_split (fun h => ?_) (fun h => ?_))
  generalize hG : (H1 ++ [(⟨[.sl p 0 l.length none], 0, .full⟩ : Blk), (⟨[.nils], 0, .full⟩ : Blk)] : Heap) = G
  have s0 : ChS (H.length + 2) (H.length + 1) H1.length (H1.length + 1) (H1.length + 1) p l.length H G ps l .nils [] := by
    have kG : Keep none H1 G := by rw [← hG]; exact Keep.app _ _ _
    refine ⟨(o.moved kG).weaken (by simp), ⟨by have := u0.1; omega, fun i x b h1 h2 => by have := u0.2 i x b h1 h2; omega⟩, ⟨by rw [← hG, hgetk]; rfl, OwnE.nils _ _ _, by simp [AV.blk], Nat.le_refl _⟩, by rw [← hG, hget0]; rfl, kG.get hbr (by simp), ⟨by omega, by omega, by omega, by omega, by omega, by have := u0.1; omega, fun i x h e => by have := u0.2 i x _ h e; omega⟩, by rw [← hG]; simp, kH.trans kG⟩
  clear hG hbr u0 o k kH hpg
  refine WX_loopS [4, 10, 11, 32, 33] (fun k fr' J => ∃ (a : Nat) (qs : List (AV × AV)) (pv : AV), k = cs.length - a ∧ a ≤ cs.length ∧ fr'.get 34 = .int .i64 a ∧ ChS (H.length + 2) (H.length + 1) H1.length (H1.length + 1) (H1.length + 1) p l.length H J qs (runS (l, []) (cs.take a)).1 pv (runS (l, []) (cs.take a)).2) cs.length ⟨0, ps, .nils, rfl, by omega, by simp only [go_sem, Nat.reduceLT, Nat.reduceEqDiff, Nat.reduceAdd, Nat.reduceMul, Nat.reduceSub, Nat.reduceLeDiff, Int.reduceToNat, Int.reduceNeg, Int.reduceLT, Int.reduceLE, Int.reduceEq, reduceCtorEq]; rfl, by rw [List.take_zero]; exact s0⟩ ?_
  clear s0
  rintro k fr' J A R hA hs hg hR ⟨a, qs, pv, rfl, hac, f34, S⟩
  have s4 := hg 4 (by decide)
  have s10 := hg 10 (by decide)
  have s11 := hg 11 (by decide)
  have s32 := hg 32 (by decide)
  have s33 := hg 33 (by decide)
  simp only [Fr.get_put, Fr.get_init, List.getD_cons_zero, List.getD_cons_succ, Nat.reduceEqDiff, if_true, if_false] at s4 s10 s11 s32 s33
  refine wx_sound hT _ ?_
  by_cases hlt : a < cs.length
  rotate_left
  · have i1 : ¬ (a : Int) < cs.length := by omega
    have hae : a = cs.length := by omega
    rw [hae, List.take_length] at S
    have gx := S.bx
    have gr := S.br
    have gp := S.pu.box
    have hpo := S.pu.own.one
    have hlow := S.low
    have hlw := S.len
    have hge := S.pu.ge
    have hsl := hslen cs
    simp only at hsl
    have ho9 := S.tk.out (G := (List.set J (H.length + 1) ⟨[.sl p 0 l.length none], 0, .full⟩ : Heap)) hsl.symm (m2 := H.length) (by omega) (fun b hb hb2 => by rw [List.getElem?_set_ne (by omega)])
    rw [hsl] at ho9
    have op : OwnE puE H.length (List.set J (H.length + 1) ⟨[.sl p 0 l.length none], 0, .full⟩ : Heap) pv (runS (l, []) cs).2 := (S.pu.own.mono (by omega)).keep (Keep.of_set rfl) (fun b hb e => by cases hb; have := S.pu.own.ge e; omega)
    have kk : Keep none H (List.set J (H.length + 1) ⟨[.sl p 0 l.length none], 0, .full⟩ : Heap) := ⟨by simp; exact S.kp.len, fun b hb _ => by rw [List.getElem?_set_ne (by omega)]; exact S.kp.at_ b hb (by simp)⟩
    have gp2 : (List.set J (H.length + 1) ⟨[.sl p 0 l.length none], 0, .full⟩ : Heap)[H1.length + 1]? = some ⟨[pv], 0, .full⟩ := by rw [List.getElem?_set_ne (by omega)]; exact gp
    repeat' (first | simp only [go_sem, Nat.reduceLT, Nat.reduceEqDiff, Nat.reduceAdd, Nat.reduceMul, Nat.reduceSub, Nat.reduceLeDiff, Int.reduceToNat, Int.reduceNeg, Int.reduceLT, Int.reduceLE, Int.reduceEq, reduceCtorEq, Int.natCast_zero, Int.natCast_one, Int.cast_ofNat_Int, Bool.not_not, false_eq_decide, true_eq_decide, hread0, hreadk, read_cons0, read_consk, astore_h0, astore_hk, hget0, hgetk, hset0, hsetk, hlen, hcat, Nat.add_assoc, Nat.add_zero, Nat.zero_add, List.length_append, and_true, true_and, AV.flat, gx, get_app gx, read_get gx, read_app gx, gr, get_app gr, read_get gr, read_app gr, astore_get gr, astore_app gr, get_set gr, get_set_app gr, read_set gr, read_set_app gr, astore_set gr, astore_set_app gr, List.set_set, hget0s, hgetks, hread0s, hreadks, List.length_set, gp, get_app gp, read_get gp, read_app gp, gp2, get_app gp2, read_get gp2, read_app gp2, hpo, one_solid hpo, one_cells hpo, *, -hK, -hns, -hok, -hplen, -hsmall, -hslen, -S, -hlow, -hlw, -hge, -hsl, -ho9, -op, -kk, -hae] | with_reducible refine IfB_dec (fun h => ?_) (fun h => ?_) | with_reducible refine Guard_dec (fun h => ?_) (fun h => ?_) | with_reducible refine Guard_ndec (fun h => ?_) (fun h => ?_) | with_reducible refine Guard_not (fun h => ?_) (fun h => ?_) | with_reducible refine IfB_ndec (fun h => ?_) (fun h => ?_) | with_reducible refine IfB_not (fun h => ?_) (fun h => ?_) | with_reducible refine Guard_split (fun h => ?_) (fun h => ?_) | with_reducible refine IfB_split (fun h => ?_) (fun h => ?_))
    refine WX_rows hT hmix [(0, none), (1, none), (2, some [false, true]), (3, none), (4, none)] (by kernel_rfl) ?_
    repeat' (first | simp only [go_sem, Nat.reduceLT, Nat.reduceEqDiff, Nat.reduceAdd, Nat.reduceMul, Nat.reduceSub, Nat.reduceLeDiff, Int.reduceToNat, Int.reduceNeg, Int.reduceLT, Int.reduceLE, Int.reduceEq, reduceCtorEq, Int.natCast_zero, Int.natCast_one, Int.cast_ofNat_Int, Bool.not_not, false_eq_decide, true_eq_decide, hread0, hreadk, read_cons0, read_consk, astore_h0, astore_hk, hget0, hgetk, hset0, hsetk, hlen, hcat, Nat.add_assoc, Nat.add_zero, Nat.zero_add, List.length_append, and_true, true_and, AV.flat, gx, get_app gx, read_get gx, read_app gx, gr, get_app gr, read_get gr, read_app gr, astore_get gr, astore_app gr, get_set gr, get_set_app gr, read_set gr, read_set_app gr, astore_set gr, astore_set_app gr, List.set_set, hget0s, hgetks, hread0s, hreadks, List.length_set, gp, get_app gp, read_get gp, read_app gp, gp2, get_app gp2, read_get gp2, read_app gp2, hpo, one_solid hpo, one_cells hpo, *, -hK, -hns, -hok, -hplen, -hsmall, -hslen, -S, -hlow, -hlw, -hge, -hsl, -ho9, -op, -kk, -hae] | with_reducible refine IfB_dec (fun h => ?_) (fun h => ?_) | with_reducible refine Guard_dec (fun h => ?_) (fun h => ?_) | with_reducible refine Guard_ndec (fun h => ?_) (fun h => ?_) | with_reducible refine Guard_not (fun h => ?_) (fun h => ?_) | with_reducible refine IfB_ndec (fun h => ?_) (fun h => ?_) | with_reducible refine IfB_not (fun h => ?_) (fun h => ?_) | with_reducible refine Guard_split (fun h => ?_) (fun h => ?_) | with_reducible refine IfB_split (fun h => ?_) (fun h => ?_))
    exact hK _ _ ⟨⟨_, _, rfl, ho9, op⟩, kk⟩
  have i1 : (a : Int) < cs.length := by omega
  have e1 := at_enc (E := chgE) (T := T) (k := .i64) se25 hlt rfl
  have e3 := inc_id hlt hcn
  have hstep := runS_step (s := (l, [])) hlt
  have hpl := hplen (cs.take a)
  have hsm := hsmall (cs.take a)
  have hsl := hslen (cs.take a)
  simp only at hsl
  have back : ∀ fr2 J2 qs2 pw, A fr2 → fr2.get 34 = .int .i64 ((a + 1 : Nat) : Int) → ChS (H.length + 2) (H.length + 1) H1.length (H1.length + 1) (H1.length + 1) p l.length H J2 qs2 (stepT cs[a] (runS (l, []) (cs.take a)).1) pw ((runS (l, []) (cs.take a)).2 ++ stepP cs[a] (runS (l, []) (cs.take a)).1 (runS (l, []) (cs.take a)).1.length) → R fr2 J2 := fun fr2 J2 qs2 pw ha q1 q2 => hR fr2 J2 ha (cs.length - (a + 1)) (by omega) ⟨a + 1, qs2, pw, rfl, by omega, q1, by rw [hstep]; exact q2⟩
  clear hR hstep hplen hsmall hslen
  generalize (runS (l, []) (cs.take a)).2 = P at *
  generalize (runS (l, []) (cs.take a)).1 = lt at *
  generalize cs[a] = c at *
  have g0 : (J ++ [(⟨c.cs, 0, .full⟩ : Blk)] : Heap)[J.length]? = some ⟨c.cs, 0, .full⟩ := by simp
  have S1 := S.grow ⟨c.cs, 0, .full⟩
  have hne0 : J.length ≠ H1.length + 1 := fun e => by have := (List.getElem?_eq_some_iff.1 S.pu.box).1; omega
  have hpw0 : pv.blk ≠ some J.length := fun e => by have := S.pu.own.lt e; omega
  have hLJ := S.len
  have gx1 := S1.bx
  clear S
  rw [chgE_cells] at e1
  unfold Chg.cs at g0 S1 gx1
  repeat' (first | simp only [go_sem, Nat.reduceLT, Nat.reduceEqDiff, Nat.reduceAdd, Nat.reduceMul, Nat.reduceSub, Nat.reduceLeDiff, Int.reduceToNat, Int.reduceNeg, Int.reduceLT, Int.reduceLE, Int.reduceEq, reduceCtorEq, Int.natCast_zero, Int.natCast_one, Int.cast_ofNat_Int, Bool.not_not, false_eq_decide, true_eq_decide, hread0, hreadk, read_cons0, read_consk, astore_h0, astore_hk, hget0, hgetk, hset0, hsetk, hlen, hcat, Nat.add_assoc, Nat.add_zero, Nat.zero_add, List.length_append, and_true, true_and, AV.flat, gx1, get_app gx1, read_get gx1, read_app gx1, *, -hK, -hns, -hok, -S1, -hpl, -hsm, -hsl, -back, -hne0, -hpw0, -hLJ, -g0] | with_reducible refine IfB_dec (fun h => ?_) (fun h => ?_) | with_reducible refine Guard_dec (fun h => ?_) (fun h => ?_) | with_reducible refine Guard_ndec (fun h => ?_) (fun h => ?_) | with_reducible refine Guard_not (fun h => ?_) (fun h => ?_) | with_reducible refine IfB_ndec (fun h => ?_) (fun h => ?_) | with_reducible refine IfB_not (fun h => ?_) (fun h => ?_) | with_reducible refine Guard_split (fun h => ?_) (fun h => ?_) | with_reducible refine IfB_split (fun h => ?_) (fun h => ?_))
  generalize hbc : J.length = bc at *
  generalize (J ++ [(⟨[.int .u8 c.kind, .int .i64 c.ten, .str c.ikey, .str c.ival, .int .u32 c.ifl, .int .i64 c.idue, .int .u64 c.iuniq, .str c.key, .int .u8 c.why, .int .i64 c.to, .bool c.prim], 0, .full⟩ : Blk)] : Heap) = G1 at *
  have hA0 := hA
  have o4 := s4
  have o10 := s10
  have o11 := s11
  have o32 := s32
  have o33 := s33
  refine WX_loopS [4, 10, 11, 13, 32, 33, 34, 40] (fun k fr' J2 => ∃ (b : Nat) (q2 : List (AV × AV)) (pw : AV), k = lt.length - b ∧ b ≤ lt.length ∧ fr'.get 41 = .int .i64 b ∧ ChS (H.length + 2) (H.length + 1) H1.length (H1.length + 1) (H1.length + 1) p l.length H J2 q2 (mixT c lt b) pw (P ++ stepP c lt b) ∧ J2[bc]? = some (⟨c.cs, 0, .full⟩ : Blk) ∧ pw.blk ≠ some bc ∧ A fr') lt.length ⟨0, qs, pv, rfl, by omega, by simp only [go_sem, Nat.reduceLT, Nat.reduceEqDiff, Nat.reduceAdd, Nat.reduceMul, Nat.reduceSub, Nat.reduceLeDiff, Int.reduceToNat, Int.reduceNeg, Int.reduceLT, Int.reduceLE, Int.reduceEq, reduceCtorEq]; rfl, by rw [mixT_zero]; simp only [stepP, List.append_nil]; exact S1, g0, hpw0, by (repeat (first | exact hs | refine hA _ _ _ (by decide) ?_))⟩ ?_
  clear hg hs hA s4 s10 s11 s32 s33 S1 g0 hpw0 gx1 hbc
  rintro k fr' J2 A2 R2 hA hs hg hR2 ⟨b, q2, pw, rfl, hbl, f41, S, gc, hpw, hAf⟩
  have s4 := hg 4 (by decide)
  have s10 := hg 10 (by decide)
  have s11 := hg 11 (by decide)
  have s13 := hg 13 (by decide)
  have s32 := hg 32 (by decide)
  have s33 := hg 33 (by decide)
  have s34 := hg 34 (by decide)
  have s40 := hg 40 (by decide)
  simp only [Fr.get_put, Fr.get_init, List.getD_cons_zero, List.getD_cons_succ, Nat.reduceEqDiff, if_true, if_false] at s4 s10 s11 s13 s32 s33 s34 s40
  rw [o4] at s4
  rw [o10] at s10
  rw [o11] at s11
  rw [o32] at s32
  rw [o33] at s33
  rw [f34] at s34
  clear o4 o10 o11 o32 o33 f34
  refine wx_sound hT _ ?_
  by_cases hlb : b < lt.length
  rotate_left
  · have i2 : ¬ (b : Int) < l.length := by omega
    have hbe : b = lt.length := by omega
    rw [hbe, mixT_all] at S
    repeat' (first | simp only [go_sem, Nat.reduceLT, Nat.reduceEqDiff, Nat.reduceAdd, Nat.reduceMul, Nat.reduceSub, Nat.reduceLeDiff, Int.reduceToNat, Int.reduceNeg, Int.reduceLT, Int.reduceLE, Int.reduceEq, reduceCtorEq, Int.natCast_zero, Int.natCast_one, Int.cast_ofNat_Int, Bool.not_not, false_eq_decide, true_eq_decide, hread0, hreadk, read_cons0, read_consk, astore_h0, astore_hk, hget0, hgetk, hset0, hsetk, hlen, hcat, Nat.add_assoc, Nat.add_zero, Nat.zero_add, List.length_append, and_true, true_and, AV.flat, *, -hK, -hns, -hok, -S, -hpl, -hsm, -hsl, -back, -hne0, -hpw, -hLJ, -gc, -hbe] | with_reducible refine IfB_dec (fun h => ?_) (fun h => ?_) | with_reducible refine Guard_dec (fun h => ?_) (fun h => ?_) | with_reducible refine Guard_ndec (fun h => ?_) (fun h => ?_) | with_reducible refine Guard_not (fun h => ?_) (fun h => ?_) | with_reducible refine IfB_ndec (fun h => ?_) (fun h => ?_) | with_reducible refine IfB_not (fun h => ?_) (fun h => ?_) | with_reducible refine Guard_split (fun h => ?_) (fun h => ?_) | with_reducible refine IfB_split (fun h => ?_) (fun h => ?_))
    exact back _ _ _ _ (by repeat (first | exact hAf | refine hA0 _ _ _ (by decide) ?_)) (by simp only [go_sem, Nat.reduceLT, Nat.reduceEqDiff, Nat.reduceAdd, Nat.reduceMul, Nat.reduceSub, Nat.reduceLeDiff, Int.reduceToNat, Int.reduceNeg, Int.reduceLT, Int.reduceLE, Int.reduceEq, reduceCtorEq]) S
  have i2 : (b : Int) < l.length := by omega
  have hlbl : b < l.length := by omega
  have e2 := TkO.addr (T' := T) (p := p) se22 hlbl
  have e4 := inc_id hlbl (by omega)
  have S1 := S.grow ⟨[.int .i64 b], 0, .full⟩
  have gi : (J2 ++ [(⟨[.int .i64 b], 0, .full⟩ : Blk)] : Heap)[J2.length]? = some ⟨[.int .i64 b], 0, .full⟩ := by simp
  have gc1 := get_app gc [(⟨[.int .i64 b], 0, .full⟩ : Blk)]
  have hpw1 : pw.blk ≠ some J2.length := fun e => by have := S.pu.own.lt e; omega
  have hJ2q : J2.length ≠ H1.length + 1 := fun e => by have := (List.getElem?_eq_some_iff.1 S.pu.box).1; omega
  have hJ2L := S.len
  have ht : (mixT c lt b)[b]? = some lt[b] := mixT_at hlb
  obtain ⟨x, hx⟩ : ∃ x, q2[b]? = some x := ⟨_, List.getElem?_eq_getElem (by rw [S.tk.len, mixT_len]; exact hlb)⟩
  have hsp := stepP_len c lt b hbl
  have hmst := mixT_step (c := c) hlb
  have hpst : P ++ stepP c lt b ++ pushT c b lt[b].ns = P ++ stepP c lt (b + 1) := by rw [stepP, tkAt_eq hlb, List.append_assoc]
  have hs16 := hsm _ (List.getElem_mem hlb)
  have hnx : nsum lt ≤ 128 := by omega
  have back2 : ∀ fr2 J3 q3 pz, A2 fr2 → fr2.get 41 = .int .i64 ((b + 1 : Nat) : Int) → ChS (H.length + 2) (H.length + 1) H1.length (H1.length + 1) (H1.length + 1) p l.length H J3 q3 ((mixT c lt b).set b (dropT c lt[b])) pz (P ++ stepP c lt b ++ pushT c b lt[b].ns) → J3[bc]? = some (⟨c.cs, 0, .full⟩ : Blk) → pz.blk ≠ some bc → A fr2 → R2 fr2 J3 := fun fr2 J3 q3 pz ha j1 j2 j3 j4 j5 => hR2 fr2 J3 ha (lt.length - (b + 1)) (by omega) ⟨b + 1, q3, pz, rfl, by omega, j1, by rw [← hmst, ← hpst]; exact j2, j3, j4, j5⟩
  clear hR2 back hmst hpst hsm S gc
  have hcl := (List.getElem?_eq_some_iff.1 gc1).1
  unfold dropT at back2
  generalize lt[b] = t at *
  obtain ⟨hon, -, x3, x4⟩ := S1.tk.el b x t hx ht
  replace x3 := x3 hlbl
  have hx3L := S1.u.2 b x
  have rN := S1.tk.readN hx
  have hxb := S1.low.2.2.2.2.2.2 b x hx
  have hpL := S1.u.1
  have gx1 := S1.bx
  have cd := nDelP (H1.length + 1) (H1.length + 1) bc J2.length c b (H.length + 2) x.2 t.ns _ pw _ (by omega) x3 (fun b hb => hx3L b hx hb) S1.pu gc1 gi ⟨hne0, hJ2q, hpw, hpw1⟩ ⟨hLJ, hJ2L⟩ S1.len (by rw [List.length_append]; omega)
  repeat' (first | simp only [go_sem, Nat.reduceLT, Nat.reduceEqDiff, Nat.reduceAdd, Nat.reduceMul, Nat.reduceSub, Nat.reduceLeDiff, Int.reduceToNat, Int.reduceNeg, Int.reduceLT, Int.reduceLE, Int.reduceEq, reduceCtorEq, Int.natCast_zero, Int.natCast_one, Int.cast_ofNat_Int, Bool.not_not, false_eq_decide, true_eq_decide, hread0, hreadk, read_cons0, read_consk, astore_h0, astore_hk, hget0, hgetk, hset0, hsetk, hlen, hcat, Nat.add_assoc, Nat.add_zero, Nat.zero_add, List.length_append, and_true, true_and, AV.flat, gx1, get_app gx1, read_get gx1, read_app gx1, gi, get_app gi, read_get gi, read_app gi, *, -hK, -hns, -hok, -S1, -hpl, -hsl, -back2, -hne0, -hpw, -hLJ, -gc1, -hpw1, -hJ2q, -hJ2L, -ht, -hx, -hsp, -hs16, -hnx, -hcl, -hon, -x3, -x4, -hx3L, -hxb, -hpL, -cd] | with_reducible refine IfB_dec (fun h => ?_) (fun h => ?_) | with_reducible refine Guard_dec (fun h => ?_) (fun h => ?_) | with_reducible refine Guard_ndec (fun h => ?_) (fun h => ?_) | with_reducible refine Guard_not (fun h => ?_) (fun h => ?_) | with_reducible refine IfB_ndec (fun h => ?_) (fun h => ?_) | with_reducible refine IfB_not (fun h => ?_) (fun h => ?_) | with_reducible refine Guard_split (fun h => ?_) (fun h => ?_) | with_reducible refine IfB_split (fun h => ?_) (fun h => ?_))
  refine WX_rows hT hmix [(0, none), (1, none), (2, none), (3, none), (4, none), (5, none), (6, none), (7, none), (8, none), (9, none), (10, some [true, true, true, true, true, true, true, false, false, false]), (11, none), (12, none), (13, some [true, true, true, true, true, true, true, true, true, true, true, true, true])] (by kernel_rfl) ?_
  repeat' (first | simp only [go_sem, Nat.reduceLT, Nat.reduceEqDiff, Nat.reduceAdd, Nat.reduceMul, Nat.reduceSub, Nat.reduceLeDiff, Int.reduceToNat, Int.reduceNeg, Int.reduceLT, Int.reduceLE, Int.reduceEq, reduceCtorEq, Int.natCast_zero, Int.natCast_one, Int.cast_ofNat_Int, Bool.not_not, false_eq_decide, true_eq_decide, hread0, hreadk, read_cons0, read_consk, astore_h0, astore_hk, hget0, hgetk, hset0, hsetk, hlen, hcat, Nat.add_assoc, Nat.add_zero, Nat.zero_add, List.length_append, and_true, true_and, AV.flat, gx1, get_app gx1, read_get gx1, read_app gx1, gi, get_app gi, read_get gi, read_app gi, *, -hK, -hns, -hok, -S1, -hpl, -hsl, -back2, -hne0, -hpw, -hLJ, -gc1, -hpw1, -hJ2q, -hJ2L, -ht, -hx, -hsp, -hs16, -hnx, -hcl, -hon, -x3, -x4, -hx3L, -hxb, -hpL, -cd] | with_reducible refine IfB_dec (fun h => ?_) (fun h => ?_) | with_reducible refine Guard_dec (fun h => ?_) (fun h => ?_) | with_reducible refine Guard_ndec (fun h => ?_) (fun h => ?_) | with_reducible refine Guard_not (fun h => ?_) (fun h => ?_) | with_reducible refine IfB_ndec (fun h => ?_) (fun h => ?_) | with_reducible refine IfB_not (fun h => ?_) (fun h => ?_) | with_reducible refine Guard_split (fun h => ?_) (fun h => ?_) | with_reducible refine IfB_split (fun h => ?_) (fun h => ?_))
  refine cd.mono ?_
  rintro s2 J3 ⟨pz, o2, hb2, hI⟩
  have hs2 := o2.one
  have hx2 := x3.one
  obtain ⟨z1, z2⟩ := OwnE.sc o2
  have hG1 : (J2 ++ [(⟨[.int .i64 b], 0, .full⟩ : Blk)] : Heap).length = J2.length + 1 := by simp
  clear cd
  generalize (J2 ++ [(⟨[.int .i64 (b : Int)], 0, .full⟩ : Blk)] : Heap) = G2 at *
  have hsame : ∀ y, y < H1.length + 1 → x.2.blk ≠ some y → J3[y]? = G2[y]? := fun y h1 h2 => hI.fr y (by omega) (by omega) (fun e => by have := S1.pu.own.ge e; omega) h2
  have hbox : ∀ y, y < J2.length + 1 → y ≠ H1.length + 1 → pw.blk ≠ some y → H1.length + 1 ≤ y → J3[y]? = G2[y]? := fun y h1 h2 h3 h4 => hI.fr y (by omega) h2 h3 (fun e => by have := hx3L y hx e; omega)
  have gx3 : J3[H1.length]? = some ⟨[.sl p 0 l.length none], 0, .full⟩ := by rw [hsame _ (by omega) hxb]; exact gx1
  have gi3 : J3[J2.length]? = some ⟨[.int .i64 b], 0, .full⟩ := by rw [hbox _ (by omega) hJ2q hpw1 hJ2L]; exact gi
  have hp3 : J3[p]? = G2[p]? := hsame _ hpL x4
  have r3 : J3.read p (b * 2 + 1) 1 = some [x.2] := by
    have := rN
    unfold Heap.read at this ⊢
    rw [hp3]; exact this
  obtain ⟨st, rest, hst, w1⟩ := S1.tk.storeN (T' := T) hx hp3 (te := 34) (by simp only [asize, td34, Option.map_some]) hs2 z1 z2
  have S3 := S1.step hx ht hlbl hon o2 hb2 hI rest st hst
  have gc3 : (List.set J3 p ⟨row2 (q2.set b (x.1, s2)) ++ rest, 2, st⟩ : Heap)[bc]? = some ⟨c.cs, 0, .full⟩ := by
    rw [List.getElem?_set_ne (by omega), hbox bc (by omega) hne0 hpw (by omega)]; exact gc1
  have hpz : pz.blk ≠ some bc := fun e => by
    rcases hI.blk _ e with h | h
    · exact hpw h
    · omega
  repeat' (first | simp only [go_sem, Nat.reduceLT, Nat.reduceEqDiff, Nat.reduceAdd, Nat.reduceMul, Nat.reduceSub, Nat.reduceLeDiff, Int.reduceToNat, Int.reduceNeg, Int.reduceLT, Int.reduceLE, Int.reduceEq, reduceCtorEq, Int.natCast_zero, Int.natCast_one, Int.cast_ofNat_Int, Bool.not_not, false_eq_decide, true_eq_decide, hread0, hreadk, read_cons0, read_consk, astore_h0, astore_hk, hget0, hgetk, hset0, hsetk, hlen, hcat, Nat.add_assoc, Nat.add_zero, Nat.zero_add, List.length_append, and_true, true_and, AV.flat, gx3, get_app gx3, read_get gx3, read_app gx3, gi3, get_app gi3, read_get gi3, read_app gi3, hs2, one_solid hs2, one_cells hs2, hx2, one_solid hx2, one_cells hx2, *, -hK, -hns, -hok, -S1, -hpl, -hsl, -back2, -hne0, -hpw, -hLJ, -gc1, -hpw1, -hJ2q, -hJ2L, -ht, -hx, -hsp, -hs16, -hnx, -hcl, -hon, -x3, -x4, -hx3L, -hxb, -hpL, -o2, -hb2, -hI, -z1, -z2, -hG1, -hsame, -hbox, -hp3, -S3, -gc3, -hpz, -gx1, -gi, -hst] | with_reducible refine IfB_dec (fun h => ?_) (fun h => ?_) | with_reducible refine Guard_dec (fun h => ?_) (fun h => ?_) | with_reducible refine Guard_ndec (fun h => ?_) (fun h => ?_) | with_reducible refine Guard_not (fun h => ?_) (fun h => ?_) | with_reducible refine IfB_ndec (fun h => ?_) (fun h => ?_) | with_reducible refine IfB_not (fun h => ?_) (fun h => ?_) | with_reducible refine Guard_split (fun h => ?_) (fun h => ?_) | with_reducible refine IfB_split (fun h => ?_) (fun h => ?_))
  exact back2 _ _ _ _ (by (repeat (first | exact hs | refine hA _ _ _ (by decide) ?_))) (by simp only [go_sem, Nat.reduceLT, Nat.reduceEqDiff, Nat.reduceAdd, Nat.reduceMul, Nat.reduceSub, Nat.reduceLeDiff, Int.reduceToNat, Int.reduceNeg, Int.reduceLT, Int.reduceLE, Int.reduceEq, reduceCtorEq]) S3 gc3 hpz (by repeat (first | exact hAf | refine hA0 _ _ _ (by decide) ?_))
end Go.Proofs.Ytccfhighlpfdmaa

