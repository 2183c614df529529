import Derived.Test.YtkmkhiipiflelaaTgG
set_option linter.unusedSimpArgs false
set_option linter.unusedVariables false
set_option maxRecDepth 100000
set_option maxHeartbeats 4000000
namespace Go.Proofs.Ytkmkhiipiflelaa
open Go Go.Proofs Go.Proofs.PI
theorem put12_spec (q : Que) (t : Tkt) (hb : qFit q.bx) (hn : t.cmd.keys.length ≤ 1000) (hks : ∀ k ∈ t.cmd.keys, k.length ≤ 100000) (H : Heap) :
    WC Try.prog 20 [q.av, t.av] H fun r H' => r = .tup [(putR q t).1.av, .int .i64 (putR q t).2.1, .int .i64 (putR q t).2.2] ∧ H' = H := by
  refine WC_val fun K hK => ?_
  have ft := fun J => fits_spec q hb J
  have my := fun J => may12_spec t hn J
  by_cases hq : q.may
  rotate_left
  · rw [decide_eq_false hq] at ft
    rw [show putR q t = (que0, 0, 8) by unfold putR; rw [if_pos hq]] at hK
    unfold Que.av Tkt.av at *
    refine WC_of_body hT Try.func20 rfl (by simp [Try.f20]) (by simp [Try.f20]) (wx_sound hT _ ?_)
    simp only [Try.f20]
    repeat' (first | simp only [go_sem, Nat.reduceLT, Nat.reduceEqDiff, Nat.reduceAdd, Nat.reduceMul, Nat.reduceSub, Nat.reduceLeDiff, Int.reduceToNat, Int.reduceNeg, Int.reduceLT, Int.reduceLE, Int.reduceEq, reduceCtorEq, Int.natCast_zero, Int.natCast_one, Int.cast_ofNat_Int, Bool.not_not, false_eq_decide, true_eq_decide, hread0, hreadk, read_cons0, read_consk, astore_h0, astore_hk, hget0, hgetk, hset0, hsetk, hlen, hcat, Nat.add_assoc, Nat.add_zero, Nat.zero_add, List.length_append, and_true, true_and, AV.flat, *, -hK, -ft, -my, -hq, -hb, -hks] | refine WC.call (ft _) ?_ | with_reducible refine IfB_dec (fun h => ?_) (fun h => ?_) | with_reducible refine Guard_dec (fun h => ?_) (fun h => ?_) | with_reducible refine Guard_ndec (fun h => ?_) (fun h => ?_) | with_reducible refine Guard_not (fun h => ?_) (fun h => ?_) | with_reducible refine IfB_ndec (fun h => ?_) (fun h => ?_) | with_reducible refine IfB_not (fun h => ?_) (fun h => ?_) | with_reducible refine Guard_split (fun h => ?_) (fun h => ?_) | with_reducible refine IfB_split (fun h => ?_) (fun h => ?_))
    refine hK _ _ ?_ (Keep.app _ _ _)
    exact Thaw.tup_row ⟨Thaw.agg_row ⟨.int _ _, .nils, trivial⟩, .int _ _, .int _ _, trivial⟩
  rw [decide_eq_true hq] at ft
  cases hm : t.mayB with
  | false =>
    rw [hm] at my
    rw [show putR q t = (que0, 0, 8) by unfold putR; rw [if_neg (not_not_intro hq), if_pos hm]] at hK
    unfold Que.av Tkt.av at *
    refine WC_of_body hT Try.func20 rfl (by simp [Try.f20]) (by simp [Try.f20]) (wx_sound hT _ ?_)
    simp only [Try.f20]
    repeat' (first | simp only [go_sem, Nat.reduceLT, Nat.reduceEqDiff, Nat.reduceAdd, Nat.reduceMul, Nat.reduceSub, Nat.reduceLeDiff, Int.reduceToNat, Int.reduceNeg, Int.reduceLT, Int.reduceLE, Int.reduceEq, reduceCtorEq, Int.natCast_zero, Int.natCast_one, Int.cast_ofNat_Int, Bool.not_not, false_eq_decide, true_eq_decide, hread0, hreadk, read_cons0, read_consk, astore_h0, astore_hk, hget0, hgetk, hset0, hsetk, hlen, hcat, Nat.add_assoc, Nat.add_zero, Nat.zero_add, List.length_append, and_true, true_and, AV.flat, *, -hK, -ft, -my, -hq, -hb, -hks, -hm] | refine WC.call (ft _) ?_ | refine WC.call (my _) ?_ | with_reducible refine IfB_dec (fun h => ?_) (fun h => ?_) | with_reducible refine Guard_dec (fun h => ?_) (fun h => ?_) | with_reducible refine Guard_ndec (fun h => ?_) (fun h => ?_) | with_reducible refine Guard_not (fun h => ?_) (fun h => ?_) | with_reducible refine IfB_ndec (fun h => ?_) (fun h => ?_) | with_reducible refine IfB_not (fun h => ?_) (fun h => ?_) | with_reducible refine Guard_split (fun h => ?_) (fun h => ?_) | with_reducible refine IfB_split (fun h => ?_) (fun h => ?_))
    refine hK _ _ ?_ (Keep.app _ _ _)
    exact Thaw.tup_row ⟨Thaw.agg_row ⟨.int _ _, .nils, trivial⟩, .int _ _, .int _ _, trivial⟩
  | true =>
  rw [hm] at my
  have hpu : putR q t = if q.next = 1099511627776 ∨ fullB q t = true then (que0, 0, 9) else (⟨q.next + 1, putBx q.bx (t.at_ q.next) (shardsL t q.bx.length)⟩, q.next, 0) := by
    unfold putR; rw [if_neg (not_not_intro hq), if_neg (by rw [hm]; decide)]
  rw [hpu] at hK
  clear hpu
  have nd := fun J => needs12_spec t q.bx.length hm hq.1 hq.2.1 hn hks J
  have tw := fun J => twin12_own q hb J
  have hl4 := hq.2.1
  have hnx := hq.2.2.1
  have hnm := hq.2.2.2.1
  have hall : ∀ l ∈ q.bx, l.length ≤ 256 := fun l hl => (hq.2.2.2.2 l hl).1
  have hsl := shardsL_len t q.bx.length
  have hjne := shardsL_ne hm hq.1 hq.2.1
  have hne : q.bx ≠ [] := fun e => by have := hq.1; rw [e] at this; simp at this
  obtain ⟨nx, bs⟩ := q
  simp only at hl4 hnx hnm hall hK nd hsl hjne hne
  have hlt := fun j (hj : j ∈ shardsL t bs.length) => shardsL_lt hj
  have hple := fun js => putBx_le (t.at_ nx) js 256 bs hall
  have hplen := fun js => putBx_length bs (t.at_ nx) js
  have hpst := fun js k => putBx_snoc bs (t.at_ nx) js k
  have hp0 : putBx bs (t.at_ nx) [] = bs := rfl
  have hfull : ∀ (z k : Nat), (shardsL t bs.length)[z]? = some ((k : Nat) : Int) → (bs[k]?.getD []).length = 256 → fullB ⟨nx, bs⟩ t = true := fun z k hz h => by
    unfold fullB
    rw [List.any_eq_true]
    exact ⟨_, List.mem_of_getElem? hz, by rw [Int.toNat_natCast, h]; rfl⟩
  have hnf : (∀ (z k : Nat), (shardsL t bs.length)[z]? = some ((k : Nat) : Int) → ¬ (bs[k]?.getD []).length = 256) → fullB ⟨nx, bs⟩ t = false := fun h => by
    unfold fullB
    rw [List.any_eq_false]
    intro j hj
    obtain ⟨z, hz, e⟩ := List.getElem_of_mem hj
    obtain ⟨k, rfl, hk⟩ := shardsL_lt hj
    have := h z k (by rw [← e]; exact List.getElem?_eq_getElem hz)
    intro hh
    have h2 := of_decide_eq_true hh
    rw [Int.toNat_natCast] at h2
    exact this (by simpa using Int.ofNat.inj h2)
  clear hall hq
  generalize putBx bs (t.at_ nx) = pb at *
  generalize fullB ⟨nx, bs⟩ t = fb at *
  generalize shardsL t bs.length = js at *
  clear hm
  unfold Que.av Tkt.av at *
  simp only at ft tw
  refine WC_of_body hT Try.func20 rfl (by simp [Try.f20]) (by simp [Try.f20]) (wx_sound hT _ ?_)
  simp only [Try.f20]
  repeat' (first | simp only [go_sem, Nat.reduceLT, Nat.reduceEqDiff, Nat.reduceAdd, Nat.reduceMul, Nat.reduceSub, Nat.reduceLeDiff, Int.reduceToNat, Int.reduceNeg, Int.reduceLT, Int.reduceLE, Int.reduceEq, reduceCtorEq, Int.natCast_zero, Int.natCast_one, Int.cast_ofNat_Int, Bool.not_not, false_eq_decide, true_eq_decide, hread0, hreadk, read_cons0, read_consk, astore_h0, astore_hk, hget0, hgetk, hset0, hsetk, hlen, hcat, Nat.add_assoc, Nat.add_zero, Nat.zero_add, List.length_append, and_true, true_and, AV.flat, *, -hK, -ft, -my, -hb, -hks, -nd, -tw, -hlt, -hple, -hplen, -hpst, -hp0, -hfull, -hnf, -hjne, -hne] | refine WC.call (ft _) ?_ | refine WC.call (my _) ?_ | refine WC.call (nd _) ?_ | with_reducible refine IfB_dec (fun h => ?_) (fun h => ?_) | with_reducible refine Guard_dec (fun h => ?_) (fun h => ?_) | with_reducible refine Guard_ndec (fun h => ?_) (fun h => ?_) | with_reducible refine Guard_not (fun h => ?_) (fun h => ?_) | with_reducible refine IfB_ndec (fun h => ?_) (fun h => ?_) | with_reducible refine IfB_not (fun h => ?_) (fun h => ?_) | with_reducible refine Guard_split (fun h => ?_) (fun h => ?_) | with_reducible refine IfB_split (fun h => ?_) (fun h => ?_))
  clear ft my nd
  have kG : Keep none H (H ++ [(⟨[.int .i64 nx, boxE.lst bs], 0, .full⟩ : Blk), (⟨t.cs, 0, .full⟩ : Blk), (⟨[.int .i64 0, .nils], 0, .full⟩ : Blk)]) := Keep.app _ _ _
  have g0 : (H ++ [(⟨[.int .i64 nx, boxE.lst bs], 0, .full⟩ : Blk), (⟨t.cs, 0, .full⟩ : Blk), (⟨[.int .i64 0, .nils], 0, .full⟩ : Blk)])[H.length]? = some ⟨[.int .i64 nx, boxE.lst bs], 0, .full⟩ := by rw [hget0]; rfl
  have g1 : (H ++ [(⟨[.int .i64 nx, boxE.lst bs], 0, .full⟩ : Blk), (⟨t.cs, 0, .full⟩ : Blk), (⟨[.int .i64 0, .nils], 0, .full⟩ : Blk)])[H.length + 1]? = some ⟨t.cs, 0, .full⟩ := by rw [hgetk]; rfl
  have g2 : (H ++ [(⟨[.int .i64 nx, boxE.lst bs], 0, .full⟩ : Blk), (⟨t.cs, 0, .full⟩ : Blk), (⟨[.int .i64 0, .nils], 0, .full⟩ : Blk)])[H.length + 2]? = some ⟨[.int .i64 0, .nils], 0, .full⟩ := by rw [hgetk]; rfl
  have hGl : (H ++ [(⟨[.int .i64 nx, boxE.lst bs], 0, .full⟩ : Blk), (⟨t.cs, 0, .full⟩ : Blk), (⟨[.int .i64 0, .nils], 0, .full⟩ : Blk)]).length = H.length + 3 := by simp
  unfold Tkt.cs at kG g0 g1 g2 hGl
  generalize (H ++ [(⟨[.int .i64 nx, boxE.lst bs], 0, .full⟩ : Blk), (⟨[.int .i64 t.num, .int .u8 t.kind, .int .u8 t.cmd.kind, .int .i64 t.cmd.ten, Enc.str.lst t.cmd.keys, .str t.cmd.val, .int .u32 t.cmd.flags, .int .i64 t.cmd.for_, .int .u64 t.cmd.uniq, .int .u64 t.cmd.by_, .int .i64 t.ten, .int .i64 t.to], 0, .full⟩ : Blk), (⟨[.int .i64 0, .nils], 0, .full⟩ : Blk)] : Heap) = G at *
  refine WX_loopS [2, 3, 4, 7] (fun kn fr' J => ∃ z : Nat, kn = js.length - z ∧ z ≤ js.length ∧ fr'.get 8 = .int .i64 z ∧ J = G ∧ (z = 0 ∨ nx ≠ 1099511627776) ∧ ∀ (z' k : Nat), z' < z → js[z']? = some ((k : Nat) : Int) → ¬ (bs[k]?.getD []).length = 256) js.length ⟨0, rfl, by omega, by simp only [go_sem, Nat.reduceLT, Nat.reduceEqDiff, Nat.reduceAdd, Nat.reduceMul, Nat.reduceSub, Nat.reduceLeDiff, Int.reduceToNat, Int.reduceNeg, Int.reduceLT, Int.reduceLE, Int.reduceEq, reduceCtorEq]; rfl, rfl, .inl rfl, fun z' k h => by omega⟩ ?_
  rintro kn fr' J A R hA hs hg hR ⟨z, rfl, hz, f8, hJG, hzn, hpre⟩
  subst hJG
  have s2 := hg 2 (by decide)
  have s3 := hg 3 (by decide)
  have s4 := hg 4 (by decide)
  have s7 := hg 7 (by decide)
  simp only [Fr.get_put, Fr.get_init, List.getD_cons_zero, List.getD_cons_succ, Nat.reduceEqDiff, if_true, if_false] at s2 s3 s4 s7
  refine wx_sound hT _ ?_
  by_cases hlz : z < js.length
  · have i6 : (z : Int) < js.length := by omega
    have e4 := inc_id hlz (by omega)
    have e8 := at_enc (E := Enc.int .i64) (T := T) (k := .i64) se27 hlz rfl
    rw [int_cells] at e8
    obtain ⟨k, hj, hk⟩ := hlt _ (List.getElem_mem hlz)
    have e9 := at_enc (E := boxE) (T := T) (k := .i64) se22 hk rfl
    rw [boxE_cells] at e9
    have hgz : js[z]? = some ((k : Nat) : Int) := by rw [List.getElem?_eq_getElem hlz, hj]
    have hbk : (bs[k]?.getD []) = bs[k] := by rw [List.getElem?_eq_getElem hk]; rfl
    have back : ¬ (bs[k]).length = 256 → nx ≠ 1099511627776 → ∀ fr2, A fr2 → fr2.get 8 = .int .i64 ((z + 1 : Nat) : Int) → R fr2 J := fun h1 h2 fr2 ha q1 => hR fr2 J ha (js.length - (z + 1)) (by omega) ⟨z + 1, rfl, by omega, q1, rfl, .inr h2, fun z' k' hz' hkk => by
      by_cases e : z' = z
      · subst e
        rw [hgz] at hkk
        have : k = k' := by simp at hkk; omega
        subst this
        rw [hbk]; exact h1
      · exact hpre z' k' (by omega) hkk⟩
    have hful := hfull z k hgz
    rw [hbk] at hful
    rw [hj] at e8
    clear hR hgz hbk hj
    generalize bs[k] = lk at *
    by_cases c1 : (lk.length : Int) = 256
    · rw [hful (by omega), if_pos (.inr rfl)] at hK
      simp only at hK
      clear hful back hfull hnf
      repeat' (first | simp only [go_sem, Nat.reduceLT, Nat.reduceEqDiff, Nat.reduceAdd, Nat.reduceMul, Nat.reduceSub, Nat.reduceLeDiff, Int.reduceToNat, Int.reduceNeg, Int.reduceLT, Int.reduceLE, Int.reduceEq, reduceCtorEq, Int.natCast_zero, Int.natCast_one, Int.cast_ofNat_Int, Bool.not_not, false_eq_decide, true_eq_decide, hread0, hreadk, read_cons0, read_consk, astore_h0, astore_hk, hget0, hgetk, hset0, hsetk, hlen, hcat, Nat.add_assoc, Nat.add_zero, Nat.zero_add, List.length_append, and_true, true_and, AV.flat, g0, get_app g0, read_get g0, read_app g0, g1, get_app g1, read_get g1, read_app g1, *, -hK, -g2, -kG, -hGl, -hb, -hks, -tw, -hlt, -hple, -hplen, -hpst, -hp0, -hjne, -hne, -hzn, -hpre, -hlz] | with_reducible refine IfB_dec (fun h => ?_) (fun h => ?_) | with_reducible refine Guard_dec (fun h => ?_) (fun h => ?_) | with_reducible refine Guard_ndec (fun h => ?_) (fun h => ?_) | with_reducible refine Guard_not (fun h => ?_) (fun h => ?_) | with_reducible refine IfB_ndec (fun h => ?_) (fun h => ?_) | with_reducible refine IfB_not (fun h => ?_) (fun h => ?_) | with_reducible refine Guard_split (fun h => ?_) (fun h => ?_) | with_reducible refine IfB_split (fun h => ?_) (fun h => ?_))
      refine WX_rows hT hmix [(0, none), (1, none), (2, none), (3, none), (4, none), (5, none), (6, none), (7, none), (8, none), (9, none), (10, none), (11, none), (12, none), (13, none), (14, none)] (by kernel_rfl) ?_
      repeat' (first | simp only [go_sem, Nat.reduceLT, Nat.reduceEqDiff, Nat.reduceAdd, Nat.reduceMul, Nat.reduceSub, Nat.reduceLeDiff, Int.reduceToNat, Int.reduceNeg, Int.reduceLT, Int.reduceLE, Int.reduceEq, reduceCtorEq, Int.natCast_zero, Int.natCast_one, Int.cast_ofNat_Int, Bool.not_not, false_eq_decide, true_eq_decide, hread0, hreadk, read_cons0, read_consk, astore_h0, astore_hk, hget0, hgetk, hset0, hsetk, hlen, hcat, Nat.add_assoc, Nat.add_zero, Nat.zero_add, List.length_append, and_true, true_and, AV.flat, g0, get_app g0, read_get g0, read_app g0, g1, get_app g1, read_get g1, read_app g1, g2, get_app g2, read_get g2, read_app g2, astore_get g2, astore_app g2, get_set g2, get_set_app g2, read_set g2, read_set_app g2, astore_set g2, astore_set_app g2, List.set_set, hget0s, hgetks, hread0s, hreadks, List.length_set, *, -hK, -kG, -hGl, -hb, -hks, -tw, -hlt, -hple, -hplen, -hpst, -hp0, -hjne, -hne, -hzn, -hpre, -hlz] | with_reducible refine IfB_dec (fun h => ?_) (fun h => ?_) | with_reducible refine Guard_dec (fun h => ?_) (fun h => ?_) | with_reducible refine Guard_ndec (fun h => ?_) (fun h => ?_) | with_reducible refine Guard_not (fun h => ?_) (fun h => ?_) | with_reducible refine IfB_ndec (fun h => ?_) (fun h => ?_) | with_reducible refine IfB_not (fun h => ?_) (fun h => ?_) | with_reducible refine Guard_split (fun h => ?_) (fun h => ?_) | with_reducible refine IfB_split (fun h => ?_) (fun h => ?_))
      refine hK _ _ ?_ ⟨by rw [List.length_set]; exact kG.len, fun b hb2 _ => by rw [List.getElem?_set_ne (by omega)]; exact kG.at_ b hb2 (by simp)⟩
      exact Thaw.tup_row ⟨Thaw.agg_row ⟨.int _ _, .nils, trivial⟩, .int _ _, .int _ _, trivial⟩
    by_cases c2 : nx = 1099511627776
    · rw [if_pos (.inl c2)] at hK
      simp only at hK
      clear hful back hfull hnf
      repeat' (first | simp only [go_sem, Nat.reduceLT, Nat.reduceEqDiff, Nat.reduceAdd, Nat.reduceMul, Nat.reduceSub, Nat.reduceLeDiff, Int.reduceToNat, Int.reduceNeg, Int.reduceLT, Int.reduceLE, Int.reduceEq, reduceCtorEq, Int.natCast_zero, Int.natCast_one, Int.cast_ofNat_Int, Bool.not_not, false_eq_decide, true_eq_decide, hread0, hreadk, read_cons0, read_consk, astore_h0, astore_hk, hget0, hgetk, hset0, hsetk, hlen, hcat, Nat.add_assoc, Nat.add_zero, Nat.zero_add, List.length_append, and_true, true_and, AV.flat, g0, get_app g0, read_get g0, read_app g0, g1, get_app g1, read_get g1, read_app g1, *, -hK, -g2, -kG, -hGl, -hb, -hks, -tw, -hlt, -hple, -hplen, -hpst, -hp0, -hjne, -hne, -hzn, -hpre, -hlz] | with_reducible refine IfB_dec (fun h => ?_) (fun h => ?_) | with_reducible refine Guard_dec (fun h => ?_) (fun h => ?_) | with_reducible refine Guard_ndec (fun h => ?_) (fun h => ?_) | with_reducible refine Guard_not (fun h => ?_) (fun h => ?_) | with_reducible refine IfB_ndec (fun h => ?_) (fun h => ?_) | with_reducible refine IfB_not (fun h => ?_) (fun h => ?_) | with_reducible refine Guard_split (fun h => ?_) (fun h => ?_) | with_reducible refine IfB_split (fun h => ?_) (fun h => ?_))
      refine WX_rows hT hmix [(0, none), (1, none), (2, none), (3, none), (4, none), (5, none), (6, none), (7, none), (8, none), (9, none), (10, none), (11, none), (12, none), (13, none), (14, none)] (by kernel_rfl) ?_
      repeat' (first | simp only [go_sem, Nat.reduceLT, Nat.reduceEqDiff, Nat.reduceAdd, Nat.reduceMul, Nat.reduceSub, Nat.reduceLeDiff, Int.reduceToNat, Int.reduceNeg, Int.reduceLT, Int.reduceLE, Int.reduceEq, reduceCtorEq, Int.natCast_zero, Int.natCast_one, Int.cast_ofNat_Int, Bool.not_not, false_eq_decide, true_eq_decide, hread0, hreadk, read_cons0, read_consk, astore_h0, astore_hk, hget0, hgetk, hset0, hsetk, hlen, hcat, Nat.add_assoc, Nat.add_zero, Nat.zero_add, List.length_append, and_true, true_and, AV.flat, g0, get_app g0, read_get g0, read_app g0, g1, get_app g1, read_get g1, read_app g1, g2, get_app g2, read_get g2, read_app g2, astore_get g2, astore_app g2, get_set g2, get_set_app g2, read_set g2, read_set_app g2, astore_set g2, astore_set_app g2, List.set_set, hget0s, hgetks, hread0s, hreadks, List.length_set, *, -hK, -kG, -hGl, -hb, -hks, -tw, -hlt, -hple, -hplen, -hpst, -hp0, -hjne, -hne, -hzn, -hpre, -hlz] | with_reducible refine IfB_dec (fun h => ?_) (fun h => ?_) | with_reducible refine Guard_dec (fun h => ?_) (fun h => ?_) | with_reducible refine Guard_ndec (fun h => ?_) (fun h => ?_) | with_reducible refine Guard_not (fun h => ?_) (fun h => ?_) | with_reducible refine IfB_ndec (fun h => ?_) (fun h => ?_) | with_reducible refine IfB_not (fun h => ?_) (fun h => ?_) | with_reducible refine Guard_split (fun h => ?_) (fun h => ?_) | with_reducible refine IfB_split (fun h => ?_) (fun h => ?_))
      refine hK _ _ ?_ ⟨by rw [List.length_set]; exact kG.len, fun b hb2 _ => by rw [List.getElem?_set_ne (by omega)]; exact kG.at_ b hb2 (by simp)⟩
      exact Thaw.tup_row ⟨Thaw.agg_row ⟨.int _ _, .nils, trivial⟩, .int _ _, .int _ _, trivial⟩
    have back := back (by omega) c2
    clear hful hfull hnf
    repeat' (first | simp only [go_sem, Nat.reduceLT, Nat.reduceEqDiff, Nat.reduceAdd, Nat.reduceMul, Nat.reduceSub, Nat.reduceLeDiff, Int.reduceToNat, Int.reduceNeg, Int.reduceLT, Int.reduceLE, Int.reduceEq, reduceCtorEq, Int.natCast_zero, Int.natCast_one, Int.cast_ofNat_Int, Bool.not_not, false_eq_decide, true_eq_decide, hread0, hreadk, read_cons0, read_consk, astore_h0, astore_hk, hget0, hgetk, hset0, hsetk, hlen, hcat, Nat.add_assoc, Nat.add_zero, Nat.zero_add, List.length_append, and_true, true_and, AV.flat, g0, get_app g0, read_get g0, read_app g0, g1, get_app g1, read_get g1, read_app g1, *, -hK, -g2, -kG, -hGl, -hb, -hks, -tw, -hlt, -hple, -hplen, -hpst, -hp0, -hjne, -hne, -hzn, -hpre, -hlz, -back] | with_reducible refine IfB_dec (fun h => ?_) (fun h => ?_) | with_reducible refine Guard_dec (fun h => ?_) (fun h => ?_) | with_reducible refine Guard_ndec (fun h => ?_) (fun h => ?_) | with_reducible refine Guard_not (fun h => ?_) (fun h => ?_) | with_reducible refine IfB_ndec (fun h => ?_) (fun h => ?_) | with_reducible refine IfB_not (fun h => ?_) (fun h => ?_) | with_reducible refine Guard_split (fun h => ?_) (fun h => ?_) | with_reducible refine IfB_split (fun h => ?_) (fun h => ?_))
    refine WX_rows hT hmix [(0, none), (1, none), (2, none), (3, none), (4, none), (5, none), (6, none), (7, none), (8, none), (9, none), (10, none), (11, none), (12, none), (13, none), (14, none)] (by kernel_rfl) ?_
    repeat' (first | simp only [go_sem, Nat.reduceLT, Nat.reduceEqDiff, Nat.reduceAdd, Nat.reduceMul, Nat.reduceSub, Nat.reduceLeDiff, Int.reduceToNat, Int.reduceNeg, Int.reduceLT, Int.reduceLE, Int.reduceEq, reduceCtorEq, Int.natCast_zero, Int.natCast_one, Int.cast_ofNat_Int, Bool.not_not, false_eq_decide, true_eq_decide, hread0, hreadk, read_cons0, read_consk, astore_h0, astore_hk, hget0, hgetk, hset0, hsetk, hlen, hcat, Nat.add_assoc, Nat.add_zero, Nat.zero_add, List.length_append, and_true, true_and, AV.flat, g0, get_app g0, read_get g0, read_app g0, g1, get_app g1, read_get g1, read_app g1, *, -hK, -g2, -kG, -hGl, -hb, -hks, -tw, -hlt, -hple, -hplen, -hpst, -hp0, -hjne, -hne, -hzn, -hpre, -hlz, -back] | with_reducible refine IfB_dec (fun h => ?_) (fun h => ?_) | with_reducible refine Guard_dec (fun h => ?_) (fun h => ?_) | with_reducible refine Guard_ndec (fun h => ?_) (fun h => ?_) | with_reducible refine Guard_not (fun h => ?_) (fun h => ?_) | with_reducible refine IfB_ndec (fun h => ?_) (fun h => ?_) | with_reducible refine IfB_not (fun h => ?_) (fun h => ?_) | with_reducible refine Guard_split (fun h => ?_) (fun h => ?_) | with_reducible refine IfB_split (fun h => ?_) (fun h => ?_))
    exact back _ (by (repeat (first | exact hs | refine hA _ _ _ (by decide) ?_))) (by simp only [go_sem, Nat.reduceLT, Nat.reduceEqDiff, Nat.reduceAdd, Nat.reduceMul, Nat.reduceSub, Nat.reduceLeDiff, Int.reduceToNat, Int.reduceNeg, Int.reduceLT, Int.reduceLE, Int.reduceEq, reduceCtorEq])
  have i6 : ¬ (z : Int) < js.length := by omega
  have i1 : ¬ nx = 1099511627776 := by
    rcases hzn with h | h
    · have := List.length_pos_iff.2 hjne; omega
    · exact h
  rw [hnf fun z' k h => hpre z' k (by have := (List.getElem?_eq_some_iff.1 h).1; omega) h, if_neg (by simp [i1])] at hK
  simp only at hK
  clear hnf hfull hpre hzn hjne
  repeat' (first | simp only [go_sem, Nat.reduceLT, Nat.reduceEqDiff, Nat.reduceAdd, Nat.reduceMul, Nat.reduceSub, Nat.reduceLeDiff, Int.reduceToNat, Int.reduceNeg, Int.reduceLT, Int.reduceLE, Int.reduceEq, reduceCtorEq, Int.natCast_zero, Int.natCast_one, Int.cast_ofNat_Int, Bool.not_not, false_eq_decide, true_eq_decide, hread0, hreadk, read_cons0, read_consk, astore_h0, astore_hk, hget0, hgetk, hset0, hsetk, hlen, hcat, Nat.add_assoc, Nat.add_zero, Nat.zero_add, List.length_append, and_true, true_and, AV.flat, g0, get_app g0, read_get g0, read_app g0, g1, get_app g1, read_get g1, read_app g1, *, -hK, -g2, -kG, -hGl, -hb, -hks, -tw, -hlt, -hple, -hplen, -hpst, -hp0, -hne, -hlz] | with_reducible refine IfB_dec (fun h => ?_) (fun h => ?_) | with_reducible refine Guard_dec (fun h => ?_) (fun h => ?_) | with_reducible refine Guard_ndec (fun h => ?_) (fun h => ?_) | with_reducible refine Guard_not (fun h => ?_) (fun h => ?_) | with_reducible refine IfB_ndec (fun h => ?_) (fun h => ?_) | with_reducible refine IfB_not (fun h => ?_) (fun h => ?_) | with_reducible refine Guard_split (fun h => ?_) (fun h => ?_) | with_reducible refine IfB_split (fun h => ?_) (fun h => ?_))
  refine (tw _).mono ?_
  rintro _ H1 ⟨⟨wo, ps, rfl, W0⟩, kH⟩
  clear tw
  rw [hGl] at W0
  obtain ⟨p, hwo, W⟩ := W0.toO hne
  subst hwo
  clear W0
  have hH1 : H.length + 3 ≤ H1.length := by have := kH.len; omega
  have y0 : H1[H.length]? = some (⟨[.int .i64 nx, boxE.lst bs], 0, .full⟩ : Blk) := kH.get g0 (by simp)
  have y1 : H1[H.length + 1]? = some (⟨[.int .i64 t.num, .int .u8 t.kind, .int .u8 t.cmd.kind, .int .i64 t.cmd.ten, Enc.str.lst t.cmd.keys, .str t.cmd.val, .int .u32 t.cmd.flags, .int .i64 t.cmd.for_, .int .u64 t.cmd.uniq, .int .u64 t.cmd.by_, .int .i64 t.ten, .int .i64 t.to], 0, .full⟩ : Blk) := kH.get g1 (by simp)
  have y2 : H1[H.length + 2]? = some (⟨[.int .i64 0, .nils], 0, .full⟩ : Blk) := kH.get g2 (by simp)
  have z0 := get_app y0 [(⟨[.int .i64 nx, .sl p 0 bs.length none], 0, .full⟩ : Blk)]
  have z1 := get_app y1 [(⟨[.int .i64 nx, .sl p 0 bs.length none], 0, .full⟩ : Blk)]
  repeat' (first | simp only [go_sem, Nat.reduceLT, Nat.reduceEqDiff, Nat.reduceAdd, Nat.reduceMul, Nat.reduceSub, Nat.reduceLeDiff, Int.reduceToNat, Int.reduceNeg, Int.reduceLT, Int.reduceLE, Int.reduceEq, reduceCtorEq, Int.natCast_zero, Int.natCast_one, Int.cast_ofNat_Int, Bool.not_not, false_eq_decide, true_eq_decide, hread0, hreadk, read_cons0, read_consk, astore_h0, astore_hk, hget0, hgetk, hset0, hsetk, hlen, hcat, Nat.add_assoc, Nat.add_zero, Nat.zero_add, List.length_append, and_true, true_and, AV.flat, z0, get_app z0, read_get z0, read_app z0, z1, get_app z1, read_get z1, read_app z1, astore_get z1, astore_app z1, get_set z1, get_set_app z1, read_set z1, read_set_app z1, astore_set z1, astore_set_app z1, List.set_set, hget0s, hgetks, hread0s, hreadks, List.length_set, *, -hK, -hb, -hks, -hlt, -hple, -hplen, -hpst, -hp0, -W, -kH, -hH1, -y0, -y1, -y2] | with_reducible refine IfB_dec (fun h => ?_) (fun h => ?_) | with_reducible refine Guard_dec (fun h => ?_) (fun h => ?_) | with_reducible refine Guard_ndec (fun h => ?_) (fun h => ?_) | with_reducible refine Guard_not (fun h => ?_) (fun h => ?_) | with_reducible refine IfB_ndec (fun h => ?_) (fun h => ?_) | with_reducible refine IfB_not (fun h => ?_) (fun h => ?_) | with_reducible refine Guard_split (fun h => ?_) (fun h => ?_) | with_reducible refine IfB_split (fun h => ?_) (fun h => ?_))
  have hpl := W.lt
  have hpg := W.ge
  have hpsl : ∀ (j : Nat) (x : AV), ps[j]? = some x → x.blk ≠ some H1.length := fun j x hx e => by have := (W.lts hx e).2.1; omega
  generalize hG : (List.set (H1 ++ [(⟨[.int .i64 nx, .sl p 0 bs.length none], 0, .full⟩ : Blk)]) (H.length + 1) ⟨[.int .i64 nx, .int .u8 t.kind, .int .u8 t.cmd.kind, .int .i64 t.cmd.ten, Enc.str.lst t.cmd.keys, .str t.cmd.val, .int .u32 t.cmd.flags, .int .i64 t.cmd.for_, .int .u64 t.cmd.uniq, .int .u64 t.cmd.by_, .int .i64 t.ten, .int .i64 t.to], 0, .full⟩ : Heap) = G2
  have x1 : G2[H.length + 1]? = some (⟨[.int .i64 nx, .int .u8 t.kind, .int .u8 t.cmd.kind, .int .i64 t.cmd.ten, Enc.str.lst t.cmd.keys, .str t.cmd.val, .int .u32 t.cmd.flags, .int .i64 t.cmd.for_, .int .u64 t.cmd.uniq, .int .u64 t.cmd.by_, .int .i64 t.ten, .int .i64 t.to], 0, .full⟩ : Blk) := by rw [← hG, List.getElem?_set_self (by simp; omega)]
  have x2 : G2[H.length + 2]? = some (⟨[.int .i64 0, .nils], 0, .full⟩ : Blk) := by rw [← hG, List.getElem?_set_ne (by omega)]; exact get_app y2 _
  have x3 : G2[H1.length]? = some (⟨[.int .i64 nx, .sl p 0 bs.length none], 0, .full⟩ : Blk) := by rw [← hG, List.getElem?_set_ne (by omega)]; simp
  have kG2 : Keep none H G2 := ⟨by rw [← hG]; simp; omega, fun b hb _ => by rw [← hG, List.getElem?_set_ne (by omega), List.getElem?_append_left (by omega), kH.at_ b (by omega) (by simp)]; exact kG.at_ b hb (by simp)⟩
  have WG : BxO (H.length + 3) G2 p ps bs := (W.keep (Keep.app none H1 [(⟨[.int .i64 nx, .sl p 0 bs.length none], 0, .full⟩ : Blk)])).low fun b h1 h2 => by rw [← hG, List.getElem?_set_ne (by omega)]
  generalize H1.length = ob at *
  clear hG y0 y1 y2 z0 z1 kH W hH1
  rw [← hp0] at WG
  have o3 := s3
  have o4 := s4
  have o7 := s7
  refine WX_loopS [3, 4, 7, 9] (fun k fr' J => ∃ (i : Nat) (qs : List AV), k = js.length - i ∧ i ≤ js.length ∧ fr'.get 10 = .int .i64 i ∧ Keep none H J ∧ J[H.length + 1]? = some (⟨[.int .i64 nx, .int .u8 t.kind, .int .u8 t.cmd.kind, .int .i64 t.cmd.ten, Enc.str.lst t.cmd.keys, .str t.cmd.val, .int .u32 t.cmd.flags, .int .i64 t.cmd.for_, .int .u64 t.cmd.uniq, .int .u64 t.cmd.by_, .int .i64 t.ten, .int .i64 t.to], 0, .full⟩ : Blk) ∧ J[H.length + 2]? = some (⟨[.int .i64 0, .nils], 0, .full⟩ : Blk) ∧ J[ob]? = some (⟨[.int .i64 nx, .sl p 0 bs.length none], 0, .full⟩ : Blk) ∧ BxO (H.length + 3) J p qs (pb (js.take i)) ∧ ∀ (j : Nat) (x : AV), qs[j]? = some x → x.blk ≠ some ob) js.length ⟨0, ps, rfl, by omega, by simp only [go_sem, Nat.reduceLT, Nat.reduceEqDiff, Nat.reduceAdd, Nat.reduceMul, Nat.reduceSub, Nat.reduceLeDiff, Int.reduceToNat, Int.reduceNeg, Int.reduceLT, Int.reduceLE, Int.reduceEq, reduceCtorEq]; rfl, kG2, x1, x2, x3, WG, hpsl⟩ ?_
  clear WG x1 x2 x3 kG2 hpsl hg hs hA s2 s3 s4 s7 hR
  rintro k fr' J A R hA hs hg hR ⟨i, qs, rfl, hi, f10, kJ, g1, g2, g3, W, hps⟩
  have s3 := hg 3 (by decide)
  have s4 := hg 4 (by decide)
  have s7 := hg 7 (by decide)
  have s9 := hg 9 (by decide)
  simp only [Fr.get_put, Fr.get_init, List.getD_cons_zero, List.getD_cons_succ, Nat.reduceEqDiff, if_true, if_false] at s3 s4 s7 s9
  rw [o3] at s3
  rw [o4] at s4
  rw [o7] at s7
  clear o3 o4 o7
  refine wx_sound hT _ ?_
  by_cases hli : i < js.length
  rotate_left
  · have i5 : ¬ (i : Int) < js.length := by omega
    have hie : i = js.length := by omega
    rw [hie, List.take_length] at W
    have hJl := (List.getElem?_eq_some_iff.1 g3).1
    have w1 : IntKind.i64.wrap (nx + 1) = nx + 1 := by rw [IntKind.wrap_i64]; omega
    repeat' (first | simp only [go_sem, Nat.reduceLT, Nat.reduceEqDiff, Nat.reduceAdd, Nat.reduceMul, Nat.reduceSub, Nat.reduceLeDiff, Int.reduceToNat, Int.reduceNeg, Int.reduceLT, Int.reduceLE, Int.reduceEq, reduceCtorEq, Int.natCast_zero, Int.natCast_one, Int.cast_ofNat_Int, Bool.not_not, false_eq_decide, true_eq_decide, hread0, hreadk, read_cons0, read_consk, astore_h0, astore_hk, hget0, hgetk, hset0, hsetk, hlen, hcat, Nat.add_assoc, Nat.add_zero, Nat.zero_add, List.length_append, and_true, true_and, AV.flat, g1, get_app g1, read_get g1, read_app g1, g3, get_app g3, read_get g3, read_app g3, astore_get g3, astore_app g3, get_set g3, get_set_app g3, read_set g3, read_set_app g3, astore_set g3, astore_set_app g3, List.set_set, hget0s, hgetks, hread0s, hreadks, List.length_set, *, -hK, -hb, -W, -kJ, -g2, -hps, -hli, -hie, -hlt, -hple, -hplen, -hpst, -hp0, -hJl, -hks] | with_reducible refine IfB_dec (fun h => ?_) (fun h => ?_) | with_reducible refine Guard_dec (fun h => ?_) (fun h => ?_) | with_reducible refine Guard_ndec (fun h => ?_) (fun h => ?_) | with_reducible refine Guard_not (fun h => ?_) (fun h => ?_) | with_reducible refine IfB_ndec (fun h => ?_) (fun h => ?_) | with_reducible refine IfB_not (fun h => ?_) (fun h => ?_) | with_reducible refine Guard_split (fun h => ?_) (fun h => ?_) | with_reducible refine IfB_split (fun h => ?_) (fun h => ?_))
    have u1 : (List.set J ob ⟨[.int .i64 (nx + 1), .sl p 0 bs.length none], 0, .full⟩)[H.length + 1]? = some (⟨[.int .i64 nx, .int .u8 t.kind, .int .u8 t.cmd.kind, .int .i64 t.cmd.ten, Enc.str.lst t.cmd.keys, .str t.cmd.val, .int .u32 t.cmd.flags, .int .i64 t.cmd.for_, .int .u64 t.cmd.uniq, .int .u64 t.cmd.by_, .int .i64 t.ten, .int .i64 t.to], 0, .full⟩ : Blk) := by rw [List.getElem?_set_ne (by omega)]; exact g1
    have u2 : (List.set J ob ⟨[.int .i64 (nx + 1), .sl p 0 bs.length none], 0, .full⟩)[H.length + 2]? = some (⟨[.int .i64 0, .nils], 0, .full⟩ : Blk) := by rw [List.getElem?_set_ne (by omega)]; exact g2
    have u3 : (List.set J ob ⟨[.int .i64 (nx + 1), .sl p 0 bs.length none], 0, .full⟩)[ob]? = some (⟨[.int .i64 (nx + 1), .sl p 0 bs.length none], 0, .full⟩ : Blk) := List.getElem?_set_self hJl
    have u5 : ((List.set J ob ⟨[.int .i64 (nx + 1), .sl p 0 bs.length none], 0, .full⟩).set (H.length + 2) ⟨[.int .i64 (nx + 1), .sl p 0 bs.length none], 0, .full⟩)[H.length + 1]? = some (⟨[.int .i64 nx, .int .u8 t.kind, .int .u8 t.cmd.kind, .int .i64 t.cmd.ten, Enc.str.lst t.cmd.keys, .str t.cmd.val, .int .u32 t.cmd.flags, .int .i64 t.cmd.for_, .int .u64 t.cmd.uniq, .int .u64 t.cmd.by_, .int .i64 t.ten, .int .i64 t.to], 0, .full⟩ : Blk) := by rw [List.getElem?_set_ne (by omega)]; exact u1
    refine WX_rows hT hmix [(0, none), (1, none), (2, none), (3, some [false, false, true]), (4, none), (5, none)] (by kernel_rfl) ?_
    repeat' (first | simp only [go_sem, Nat.reduceLT, Nat.reduceEqDiff, Nat.reduceAdd, Nat.reduceMul, Nat.reduceSub, Nat.reduceLeDiff, Int.reduceToNat, Int.reduceNeg, Int.reduceLT, Int.reduceLE, Int.reduceEq, reduceCtorEq, Int.natCast_zero, Int.natCast_one, Int.cast_ofNat_Int, Bool.not_not, false_eq_decide, true_eq_decide, hread0, hreadk, read_cons0, read_consk, astore_h0, astore_hk, hget0, hgetk, hset0, hsetk, hlen, hcat, Nat.add_assoc, Nat.add_zero, Nat.zero_add, List.length_append, and_true, true_and, AV.flat, u1, get_app u1, read_get u1, read_app u1, u5, get_app u5, read_get u5, read_app u5, u3, get_app u3, read_get u3, read_app u3, u2, get_app u2, read_get u2, read_app u2, astore_get u2, astore_app u2, get_set u2, get_set_app u2, read_set u2, read_set_app u2, astore_set u2, astore_set_app u2, List.set_set, hget0s, hgetks, hread0s, hreadks, List.length_set, *, -hK, -hb, -W, -kJ, -g1, -g2, -g3, -hps, -hli, -hie, -hlt, -hple, -hplen, -hpst, -hp0, -hJl, -hks] | with_reducible refine IfB_dec (fun h => ?_) (fun h => ?_) | with_reducible refine Guard_dec (fun h => ?_) (fun h => ?_) | with_reducible refine Guard_ndec (fun h => ?_) (fun h => ?_) | with_reducible refine Guard_not (fun h => ?_) (fun h => ?_) | with_reducible refine IfB_ndec (fun h => ?_) (fun h => ?_) | with_reducible refine IfB_not (fun h => ?_) (fun h => ?_) | with_reducible refine Guard_split (fun h => ?_) (fun h => ?_) | with_reducible refine IfB_split (fun h => ?_) (fun h => ?_))
    have W2 := (W.other (G := List.set (List.set J ob ⟨[.int .i64 (nx + 1), .sl p 0 bs.length none], 0, .full⟩) (H.length + 2) ⟨[.int .i64 (nx + 1), .sl p 0 bs.length none], 0, .full⟩) fun b hb2 => by
      rcases hb2 with rfl | ⟨j, x, hx, hbx⟩
      · rw [List.getElem?_set_ne (by omega), List.getElem?_set_ne (by omega)]
      · have := (W.lts hx hbx).1
        have h2 : b ≠ ob := fun e => hps j x hx (by rw [hbx, e])
        rw [List.getElem?_set_ne (by omega), List.getElem?_set_ne (fun e => h2 e.symm)]).mono (m2 := H.length) (by omega)
    have th := W2.thaw
    rw [hplen] at th
    refine hK _ _ ?_ ?_
    · exact Thaw.tup_row ⟨Thaw.agg_row ⟨.int _ _, th, trivial⟩, .int _ _, .int _ _, trivial⟩
    exact ⟨by rw [List.length_set, List.length_set]; exact kJ.len, fun b hb2 _ => by rw [List.getElem?_set_ne (by omega), List.getElem?_set_ne (by omega)]; exact kJ.at_ b hb2 (by simp)⟩
  have i5 : (i : Int) < js.length := by omega
  have e7 := inc_id hli (by omega)
  have e8 := at_enc (E := Enc.int .i64) (T := T) (k := .i64) se27 hli rfl
  rw [int_cells] at e8
  obtain ⟨kk, hkk, hkl⟩ := hlt _ (List.getElem_mem hli)
  have hpl1 : kk < (pb (js.take i)).length := by rw [hplen]; exact hkl
  obtain ⟨x, hx, hgx, ow, hxp⟩ := W.get (i := kk) hpl1
  have hbl := hple _ _ (List.getElem_mem hpl1)
  rw [List.length_take] at hbl
  have hst : pb (js.take (i + 1)) = (pb (js.take i)).set kk ((pb (js.take i))[kk] ++ [t.at_ nx]) := by
    rw [List.take_succ_eq_append_getElem hli, hkk, hpst, List.getElem?_eq_getElem hpl1]; rfl
  have hpls := hplen (js.take i)
  have back2 : ∀ fr2 J3 qs2, A fr2 → fr2.get 10 = .int .i64 ((i + 1 : Nat) : Int) → Keep none H J3 → J3[H.length + 1]? = some (⟨[.int .i64 nx, .int .u8 t.kind, .int .u8 t.cmd.kind, .int .i64 t.cmd.ten, Enc.str.lst t.cmd.keys, .str t.cmd.val, .int .u32 t.cmd.flags, .int .i64 t.cmd.for_, .int .u64 t.cmd.uniq, .int .u64 t.cmd.by_, .int .i64 t.ten, .int .i64 t.to], 0, .full⟩ : Blk) → J3[H.length + 2]? = some (⟨[.int .i64 0, .nils], 0, .full⟩ : Blk) → J3[ob]? = some (⟨[.int .i64 nx, .sl p 0 bs.length none], 0, .full⟩ : Blk) → BxO (H.length + 3) J3 p qs2 ((pb (js.take i)).set kk ((pb (js.take i))[kk] ++ [t.at_ nx])) → (∀ (j : Nat) (x : AV), qs2[j]? = some x → x.blk ≠ some ob) → R fr2 J3 := fun fr2 J3 qs2 ha j1 j2 j3 j4 j5 j6 j7 => hR fr2 J3 ha (js.length - (i + 1)) (by omega) ⟨i + 1, qs2, rfl, by omega, j1, j2, j3, j4, j5, by rw [hst]; exact j6, j7⟩
  rw [hkk] at e8
  have ad := BxO.addr (p := p) (T' := T) se22 hkl
  clear hR hst hp0 hpst hplen hple hlt hkk
  generalize (pb (js.take i))[kk] = ll at *
  generalize pb (js.take i) = G at *
  have hxo := ow.one
  have hJl := (List.getElem?_eq_some_iff.1 g3).1
  have hJ2 := (List.getElem?_eq_some_iff.1 g2).1
  have rd := W.read hx
  repeat' (first | simp only [go_sem, Nat.reduceLT, Nat.reduceEqDiff, Nat.reduceAdd, Nat.reduceMul, Nat.reduceSub, Nat.reduceLeDiff, Int.reduceToNat, Int.reduceNeg, Int.reduceLT, Int.reduceLE, Int.reduceEq, reduceCtorEq, Int.natCast_zero, Int.natCast_one, Int.cast_ofNat_Int, Bool.not_not, false_eq_decide, true_eq_decide, hread0, hreadk, read_cons0, read_consk, astore_h0, astore_hk, hget0, hgetk, hset0, hsetk, hlen, hcat, Nat.add_assoc, Nat.add_zero, Nat.zero_add, List.length_append, and_true, true_and, AV.flat, g1, get_app g1, read_get g1, read_app g1, g3, get_app g3, read_get g3, read_app g3, hxo, one_solid hxo, one_cells hxo, *, -hK, -hb, -W, -kJ, -g1, -g2, -g3, -hps, -back2, -hx, -hgx, -ow, -hxp, -hJl, -hJ2, -hpl1, -hpls, -hbl, -hks] | with_reducible refine IfB_dec (fun h => ?_) (fun h => ?_) | with_reducible refine Guard_dec (fun h => ?_) (fun h => ?_) | with_reducible refine Guard_ndec (fun h => ?_) (fun h => ?_) | with_reducible refine Guard_not (fun h => ?_) (fun h => ?_) | with_reducible refine IfB_ndec (fun h => ?_) (fun h => ?_) | with_reducible refine IfB_not (fun h => ?_) (fun h => ?_) | with_reducible refine Guard_split (fun h => ?_) (fun h => ?_) | with_reducible refine IfB_split (fun h => ?_) (fun h => ?_))
  refine WX_rows hT hmix [(0, none), (1, none), (2, none), (3, none), (4, none), (5, none), (6, none), (7, none), (8, none), (9, none), (10, none), (11, none), (12, none), (13, none), (14, none), (15, none), (16, some [true, true, true, true, true, true, true, true, true, true, false, false, false, false, false, false]), (17, none), (18, some [true, true, true, true, true, true, true, true, true, true, true, true, true, true, true, true, true, true])] (by kernel_rfl) ?_
  repeat' (first | simp only [go_sem, Nat.reduceLT, Nat.reduceEqDiff, Nat.reduceAdd, Nat.reduceMul, Nat.reduceSub, Nat.reduceLeDiff, Int.reduceToNat, Int.reduceNeg, Int.reduceLT, Int.reduceLE, Int.reduceEq, reduceCtorEq, Int.natCast_zero, Int.natCast_one, Int.cast_ofNat_Int, Bool.not_not, false_eq_decide, true_eq_decide, hread0, hreadk, read_cons0, read_consk, astore_h0, astore_hk, hget0, hgetk, hset0, hsetk, hlen, hcat, Nat.add_assoc, Nat.add_zero, Nat.zero_add, List.length_append, and_true, true_and, AV.flat, g1, get_app g1, read_get g1, read_app g1, g3, get_app g3, read_get g3, read_app g3, hxo, one_solid hxo, one_cells hxo, *, -hK, -hb, -W, -kJ, -g1, -g2, -g3, -hps, -back2, -hx, -hgx, -ow, -hxp, -hJl, -hJ2, -hpl1, -hpls, -hbl, -hks] | with_reducible refine IfB_dec (fun h => ?_) (fun h => ?_) | with_reducible refine Guard_dec (fun h => ?_) (fun h => ?_) | with_reducible refine Guard_ndec (fun h => ?_) (fun h => ?_) | with_reducible refine Guard_not (fun h => ?_) (fun h => ?_) | with_reducible refine IfB_ndec (fun h => ?_) (fun h => ?_) | with_reducible refine IfB_not (fun h => ?_) (fun h => ?_) | with_reducible refine Guard_split (fun h => ?_) (fun h => ?_) | with_reducible refine IfB_split (fun h => ?_) (fun h => ?_))
  have hbl2 : ll.length ≤ 300 := by omega
  refine append_own (k := 1) (xs := tktE.cells (t.at_ nx)) (ow.keep0 (Keep.app none J _)) se31 az38 td38 (asrc_sl tk31 (Vs.sl (vs_at (st := .full) (by simp; exact ⟨rfl, rfl⟩) rfl rfl))) rfl (by decide) (by rw [Enc.row_length]; show (ll.length * 12 + 12) * 120 ≤ _; omega) (by rw [Enc.row_length]; show ll.length * 12 + 12 ≤ _; omega) (by simp; omega) ?_
  intro v2 J3 ov2 k2 hn2
  have hv2 := ov2.one
  have o2 : OwnE tktE (H.length + 3) J3 v2 (ll ++ [t.at_ nx]) := by unfold OwnE; rw [Enc.row_append, Enc.row_one]; exact ov2
  have z3 := k2.get (get_app g3 _) (hps kk x hx)
  have z1 := k2.get (get_app g1 _) (fun e => by have := ow.ge e; omega)
  have z4 : J3[J.length]? = some (⟨[.int .i64 nx, .int .u8 t.kind, .int .u8 t.cmd.kind, .int .i64 t.cmd.ten, Enc.str.lst t.cmd.keys, .str t.cmd.val, .int .u32 t.cmd.flags, .int .i64 t.cmd.for_, .int .u64 t.cmd.uniq, .int .u64 t.cmd.by_, .int .i64 t.ten, .int .i64 t.to], 12, .full⟩ : Blk) := k2.get (by simp) (fun e => by have := ow.lt e; omega)
  have hp3 : J3[p]? = J[p]? := by rw [k2.at_ _ (by have := W.lt; simp; omega) (fun e => hxp e), List.getElem?_append_left W.lt]
  have rd3 : J3.read p kk 1 = some [x] := by have := W.read hx; unfold Heap.read at this ⊢; rw [hp3]; exact this
  obtain ⟨sq1, sq2⟩ := own_sc o2
  obtain ⟨st, rest, hst, w1⟩ := W.store (T' := T) hx hp3 (te := 31) (by simp only [asize, td31, Option.map_some]) sq1 sq2
  have kk2 : Keep x.blk J J3 := (Keep.weak (Keep.app none J _)).trans k2
  have W2 := W.upd hx (by rw [hgx]) kk2 o2 (fun b hb => (hn2 b hb).imp id (fun h => by simp only [List.length_append] at h; omega)) rest st hst
  have hJ3 : J.length ≤ J3.length := kk2.len
  have y2 : J3[H.length + 2]? = some (⟨[.int .i64 0, .nils], 0, .full⟩ : Blk) := kk2.get g2 (fun e => by have := ow.ge e; omega)
  have hpg2 := W.ge
  have hpl2 := W.lt
  have kJ3 : Keep none H (List.set J3 p ⟨qs.set kk v2 ++ rest, 1, st⟩) := ⟨by rw [List.length_set]; have := kJ.len; omega, fun b hb _ => by
    rw [List.getElem?_set_ne (by omega), kk2.at_ _ (by omega) (fun e => by have := ow.ge e; omega)]; exact kJ.at_ b hb (by simp)⟩
  have hps2 : ∀ (j : Nat) (z : AV), (qs.set kk v2)[j]? = some z → z.blk ≠ some ob := fun j z hz => by
    by_cases e : kk = j
    · subst e
      rw [List.getElem?_set_self (List.getElem?_eq_some_iff.1 hx).1] at hz
      cases hz
      intro e2
      rcases hn2 _ e2 with h | h
      · exact hps kk x hx h
      · simp only [List.length_append] at h; omega
    · rw [List.getElem?_set_ne e] at hz
      exact hps j z hz
  generalize hG3 : (List.set J3 p ⟨qs.set kk v2 ++ rest, 1, st⟩ : Heap) = J4 at *
  have y4 : J4[H.length + 1]? = some (⟨[.int .i64 nx, .int .u8 t.kind, .int .u8 t.cmd.kind, .int .i64 t.cmd.ten, Enc.str.lst t.cmd.keys, .str t.cmd.val, .int .u32 t.cmd.flags, .int .i64 t.cmd.for_, .int .u64 t.cmd.uniq, .int .u64 t.cmd.by_, .int .i64 t.ten, .int .i64 t.to], 0, .full⟩ : Blk) := by rw [← hG3, List.getElem?_set_ne (by omega)]; exact z1
  have y5 : J4[H.length + 2]? = some (⟨[.int .i64 0, .nils], 0, .full⟩ : Blk) := by rw [← hG3, List.getElem?_set_ne (by omega)]; exact y2
  have y6 : J4[ob]? = some (⟨[.int .i64 nx, .sl p 0 bs.length none], 0, .full⟩ : Blk) := by rw [← hG3, List.getElem?_set_ne (by omega)]; exact z3
  clear hG3 k2 hn2 kk2 y2 o2 ov2 W rd hst hp3 hps
  repeat' (first | simp only [go_sem, Nat.reduceLT, Nat.reduceEqDiff, Nat.reduceAdd, Nat.reduceMul, Nat.reduceSub, Nat.reduceLeDiff, Int.reduceToNat, Int.reduceNeg, Int.reduceLT, Int.reduceLE, Int.reduceEq, reduceCtorEq, Int.natCast_zero, Int.natCast_one, Int.cast_ofNat_Int, Bool.not_not, false_eq_decide, true_eq_decide, hread0, hreadk, read_cons0, read_consk, astore_h0, astore_hk, hget0, hgetk, hset0, hsetk, hlen, hcat, Nat.add_assoc, Nat.add_zero, Nat.zero_add, List.length_append, and_true, true_and, AV.flat, z1, get_app z1, read_get z1, read_app z1, z3, get_app z3, read_get z3, read_app z3, z4, get_app z4, read_get z4, read_app z4, hxo, one_solid hxo, one_cells hxo, hv2, one_solid hv2, one_cells hv2, *, -hK, -hb, -kJ, -g1, -g2, -g3, -back2, -hx, -hgx, -ow, -hxp, -hJl, -hJ2, -hpl1, -hpls, -hbl, -hks, -W2, -kJ3, -hps2, -y4, -y5, -y6, -hJ3, -hpg2, -hpl2, -hbl2] | with_reducible refine IfB_dec (fun h => ?_) (fun h => ?_) | with_reducible refine Guard_dec (fun h => ?_) (fun h => ?_) | with_reducible refine Guard_ndec (fun h => ?_) (fun h => ?_) | with_reducible refine Guard_not (fun h => ?_) (fun h => ?_) | with_reducible refine IfB_ndec (fun h => ?_) (fun h => ?_) | with_reducible refine IfB_not (fun h => ?_) (fun h => ?_) | with_reducible refine Guard_split (fun h => ?_) (fun h => ?_) | with_reducible refine IfB_split (fun h => ?_) (fun h => ?_))
  exact back2 _ _ _ (by (repeat (first | exact hs | refine hA _ _ _ (by decide) ?_))) (by simp only [go_sem, Nat.reduceLT, Nat.reduceEqDiff, Nat.reduceAdd, Nat.reduceMul, Nat.reduceSub, Nat.reduceLeDiff, Int.reduceToNat, Int.reduceNeg, Int.reduceLT, Int.reduceLE, Int.reduceEq, reduceCtorEq]) kJ3 y4 y5 y6 W2 hps2

open Go Go.Proofs Go.Proofs.PI
theorem take12_spec (q : Que) (s : Int) (hb : qFit q.bx) (H : Heap) :
    WC Try.prog 22 [q.av, .int .i64 s] H fun r H' => r = .tup [(takeR q s).1.av, (takeR q s).2.1.av, .int .i64 (takeR q s).2.2] ∧ H' = H := by
  refine WC_val fun K hK => ?_
  have ck := fun J => fits_spec q hb J
  by_cases hq : q.may
  rotate_left
  · rw [decide_eq_false hq] at ck
    rw [show takeR q s = (que0, tkt0, 8) by unfold takeR; rw [if_pos hq]] at hK
    unfold Que.av Tkt.av at *
    simp only at hK
    refine WC_of_body hT Try.func22 rfl (by simp [Try.f22]) (by simp [Try.f22]) (wx_sound hT _ ?_)
    simp only [Try.f22]
    repeat' (first | simp only [go_sem, Nat.reduceLT, Nat.reduceEqDiff, Nat.reduceAdd, Nat.reduceMul, Nat.reduceSub, Nat.reduceLeDiff, Int.reduceToNat, Int.reduceNeg, Int.reduceLT, Int.reduceLE, Int.reduceEq, reduceCtorEq, Int.natCast_zero, Int.natCast_one, Int.cast_ofNat_Int, Bool.not_not, false_eq_decide, true_eq_decide, hread0, hreadk, read_cons0, read_consk, astore_h0, astore_hk, hget0, hgetk, hset0, hsetk, hlen, hcat, Nat.add_assoc, Nat.add_zero, Nat.zero_add, List.length_append, and_true, true_and, AV.flat, *, -hK, -ck, -hq, -hb] | refine WC.call (ck _) ?_ | with_reducible refine IfB_dec (fun h => ?_) (fun h => ?_) | with_reducible refine Guard_dec (fun h => ?_) (fun h => ?_) | with_reducible refine Guard_ndec (fun h => ?_) (fun h => ?_) | with_reducible refine Guard_not (fun h => ?_) (fun h => ?_) | with_reducible refine IfB_ndec (fun h => ?_) (fun h => ?_) | with_reducible refine IfB_not (fun h => ?_) (fun h => ?_) | with_reducible refine Guard_split (fun h => ?_) (fun h => ?_) | with_reducible refine IfB_split (fun h => ?_) (fun h => ?_))
    refine hK _ _ ?_ (Keep.app _ _ _)
    exact Thaw.tup_row ⟨Thaw.agg_row ⟨.int _ _, .nils, trivial⟩, Thaw.agg_row (l' := [_, _, _, _, _, _, _, _, _, _, _, _]) ⟨.int _ _, .int _ _, .int _ _, .int _ _, .nils, .str _, .int _ _, .int _ _, .int _ _, .int _ _, .int _ _, .int _ _, trivial⟩, .int _ _, trivial⟩
  rw [decide_eq_true hq] at ck
  have htk : takeR q s = if s < 0 ∨ s ≥ q.bx.length then ((que0, tkt0, 2) : Que × Tkt × Int) else if readyB q.bx s.toNat = false then (que0, tkt0, 6)
      else match q.bx[s.toNat]?.getD [] with
        | [] => (que0, tkt0, 6)
        | t :: _ => (⟨q.next, takeBx q.bx (shardsL t q.bx.length)⟩, t, 0) := by unfold takeR; rw [if_neg (not_not_intro hq)]; rfl
  by_cases i1 : s < 0
  · rw [show takeR q s = (que0, tkt0, 2) by rw [htk, if_pos (.inl i1)]] at hK
    unfold Que.av Tkt.av at *
    simp only at hK
    refine WC_of_body hT Try.func22 rfl (by simp [Try.f22]) (by simp [Try.f22]) (wx_sound hT _ ?_)
    simp only [Try.f22]
    repeat' (first | simp only [go_sem, Nat.reduceLT, Nat.reduceEqDiff, Nat.reduceAdd, Nat.reduceMul, Nat.reduceSub, Nat.reduceLeDiff, Int.reduceToNat, Int.reduceNeg, Int.reduceLT, Int.reduceLE, Int.reduceEq, reduceCtorEq, Int.natCast_zero, Int.natCast_one, Int.cast_ofNat_Int, Bool.not_not, false_eq_decide, true_eq_decide, hread0, hreadk, read_cons0, read_consk, astore_h0, astore_hk, hget0, hgetk, hset0, hsetk, hlen, hcat, Nat.add_assoc, Nat.add_zero, Nat.zero_add, List.length_append, and_true, true_and, AV.flat, *, -hK, -ck, -hq, -hb, -htk] | refine WC.call (ck _) ?_ | with_reducible refine IfB_dec (fun h => ?_) (fun h => ?_) | with_reducible refine Guard_dec (fun h => ?_) (fun h => ?_) | with_reducible refine Guard_ndec (fun h => ?_) (fun h => ?_) | with_reducible refine Guard_not (fun h => ?_) (fun h => ?_) | with_reducible refine IfB_ndec (fun h => ?_) (fun h => ?_) | with_reducible refine IfB_not (fun h => ?_) (fun h => ?_) | with_reducible refine Guard_split (fun h => ?_) (fun h => ?_) | with_reducible refine IfB_split (fun h => ?_) (fun h => ?_))
    refine hK _ _ ?_ (Keep.app _ _ _)
    exact Thaw.tup_row ⟨Thaw.agg_row ⟨.int _ _, .nils, trivial⟩, Thaw.agg_row (l' := [_, _, _, _, _, _, _, _, _, _, _, _]) ⟨.int _ _, .int _ _, .int _ _, .int _ _, .nils, .str _, .int _ _, .int _ _, .int _ _, .int _ _, .int _ _, .int _ _, trivial⟩, .int _ _, trivial⟩
  by_cases i2 : s ≥ q.bx.length
  · rw [show takeR q s = (que0, tkt0, 2) by rw [htk, if_pos (.inr i2)]] at hK
    unfold Que.av Tkt.av at *
    simp only at hK
    refine WC_of_body hT Try.func22 rfl (by simp [Try.f22]) (by simp [Try.f22]) (wx_sound hT _ ?_)
    simp only [Try.f22]
    repeat' (first | simp only [go_sem, Nat.reduceLT, Nat.reduceEqDiff, Nat.reduceAdd, Nat.reduceMul, Nat.reduceSub, Nat.reduceLeDiff, Int.reduceToNat, Int.reduceNeg, Int.reduceLT, Int.reduceLE, Int.reduceEq, reduceCtorEq, Int.natCast_zero, Int.natCast_one, Int.cast_ofNat_Int, Bool.not_not, false_eq_decide, true_eq_decide, hread0, hreadk, read_cons0, read_consk, astore_h0, astore_hk, hget0, hgetk, hset0, hsetk, hlen, hcat, Nat.add_assoc, Nat.add_zero, Nat.zero_add, List.length_append, and_true, true_and, AV.flat, *, -hK, -ck, -hq, -hb, -htk] | refine WC.call (ck _) ?_ | with_reducible refine IfB_dec (fun h => ?_) (fun h => ?_) | with_reducible refine Guard_dec (fun h => ?_) (fun h => ?_) | with_reducible refine Guard_ndec (fun h => ?_) (fun h => ?_) | with_reducible refine Guard_not (fun h => ?_) (fun h => ?_) | with_reducible refine IfB_ndec (fun h => ?_) (fun h => ?_) | with_reducible refine IfB_not (fun h => ?_) (fun h => ?_) | with_reducible refine Guard_split (fun h => ?_) (fun h => ?_) | with_reducible refine IfB_split (fun h => ?_) (fun h => ?_))
    refine hK _ _ ?_ (Keep.app _ _ _)
    exact Thaw.tup_row ⟨Thaw.agg_row ⟨.int _ _, .nils, trivial⟩, Thaw.agg_row (l' := [_, _, _, _, _, _, _, _, _, _, _, _]) ⟨.int _ _, .int _ _, .int _ _, .int _ _, .nils, .str _, .int _ _, .int _ _, .int _ _, .int _ _, .int _ _, .int _ _, trivial⟩, .int _ _, trivial⟩
  rw [if_neg (by omega)] at htk
  obtain ⟨k, rfl⟩ : ∃ k : Nat, s = k := ⟨s.toNat, by omega⟩
  rw [Int.toNat_natCast] at htk
  have hk : k < q.bx.length := by omega
  have rd := fun J => isready12_spec q hq hb k hk J
  cases hr : readyB q.bx k with
  | false =>
    rw [hr] at rd
    rw [show takeR q k = (que0, tkt0, 6) by rw [htk, if_pos hr]] at hK
    unfold Que.av Tkt.av at *
    simp only at hK
    refine WC_of_body hT Try.func22 rfl (by simp [Try.f22]) (by simp [Try.f22]) (wx_sound hT _ ?_)
    simp only [Try.f22]
    repeat' (first | simp only [go_sem, Nat.reduceLT, Nat.reduceEqDiff, Nat.reduceAdd, Nat.reduceMul, Nat.reduceSub, Nat.reduceLeDiff, Int.reduceToNat, Int.reduceNeg, Int.reduceLT, Int.reduceLE, Int.reduceEq, reduceCtorEq, Int.natCast_zero, Int.natCast_one, Int.cast_ofNat_Int, Bool.not_not, false_eq_decide, true_eq_decide, hread0, hreadk, read_cons0, read_consk, astore_h0, astore_hk, hget0, hgetk, hset0, hsetk, hlen, hcat, Nat.add_assoc, Nat.add_zero, Nat.zero_add, List.length_append, and_true, true_and, AV.flat, *, -hK, -ck, -hq, -hb, -htk, -rd, -hr] | refine WC.call (ck _) ?_ | refine WC.call (rd _) ?_ | with_reducible refine IfB_dec (fun h => ?_) (fun h => ?_) | with_reducible refine Guard_dec (fun h => ?_) (fun h => ?_) | with_reducible refine Guard_ndec (fun h => ?_) (fun h => ?_) | with_reducible refine Guard_not (fun h => ?_) (fun h => ?_) | with_reducible refine IfB_ndec (fun h => ?_) (fun h => ?_) | with_reducible refine IfB_not (fun h => ?_) (fun h => ?_) | with_reducible refine Guard_split (fun h => ?_) (fun h => ?_) | with_reducible refine IfB_split (fun h => ?_) (fun h => ?_))
    refine hK _ _ ?_ (Keep.app _ _ _)
    exact Thaw.tup_row ⟨Thaw.agg_row ⟨.int _ _, .nils, trivial⟩, Thaw.agg_row (l' := [_, _, _, _, _, _, _, _, _, _, _, _]) ⟨.int _ _, .int _ _, .int _ _, .int _ _, .nils, .str _, .int _ _, .int _ _, .int _ _, .int _ _, .int _ _, .int _ _, trivial⟩, .int _ _, trivial⟩
  | true =>
  rw [hr] at rd
  rw [if_neg (by rw [hr]; decide)] at htk
  have hne : q.bx[k] ≠ [] := fun e => by
    unfold readyB at hr
    rw [List.getElem?_eq_getElem hk, e] at hr
    cases hr
  have hall := hq.2.2.2.2
  have hbx := (hall _ (List.getElem_mem hk)).2
  obtain ⟨t, l, hbk⟩ : ∃ t l, q.bx[k] = t :: l := by
    cases h : q.bx[k] with
    | nil => exact absurd h hne
    | cons t l => exact ⟨t, l, rfl⟩
  rw [List.getElem?_eq_getElem hk, Option.getD_some, hbk] at htk
  simp only at htk
  rw [htk] at hK
  simp only at hK
  clear htk
  have hw := (boxB_mem hbx t (by rw [hbk]; exact .head _)).2
  have hnod := shardsL_nodup t q.bx.length
  have hjs : ∀ j ∈ shardsL t q.bx.length, ∃ k : Nat, j = k ∧ ∃ h : k < q.bx.length, q.bx[k] ≠ [] := fun j hj => by
    rw [← hw] at hj
    obtain ⟨k, rfl, hk, htk⟩ := mem_whereL.1 hj
    exact ⟨k, rfl, hk, fun e => by rw [e] at htk; cases htk⟩
  obtain ⟨hq1, hq2⟩ := (hb.2 _ (List.getElem_mem hk)).2 t (by rw [hbk]; exact .head _)
  have sh := fun J => needs12_spec t q.bx.length (may_tick hq (List.getElem_mem hk) (by rw [hbk]; exact .head _)) hq.1 hq.2.1 hq1 hq2 J
  have tw := fun J => twin12_own q hb J
  have hnb : q.bx ≠ [] := fun e => by have := hq.1; rw [e] at this; simp at this
  have hl4 := hq.2.1
  have hsl := shardsL_len t q.bx.length
  clear hw hall hbx hr hne hb hq
  obtain ⟨nx, bs⟩ := q
  simp only at hl4 hK sh hsl hjs hnod ck rd tw hk hbk i2 hnb
  have hplen := fun js => takeBx_length bs js
  have hpst := fun js k => takeBx_snoc bs js k
  have hp0 : takeBx bs [] = bs := rfl
  have hpget := fun js k => takeBx_get (js := js) (k := k) bs
  generalize takeBx bs = pb at *
  generalize shardsL t bs.length = js at *
  unfold Que.av Tkt.av at *
  simp only at ck tw rd
  refine WC_of_body hT Try.func22 rfl (by simp [Try.f22]) (by simp [Try.f22]) (wx_sound hT _ ?_)
  simp only [Try.f22]
  repeat' (first | simp only [go_sem, Nat.reduceLT, Nat.reduceEqDiff, Nat.reduceAdd, Nat.reduceMul, Nat.reduceSub, Nat.reduceLeDiff, Int.reduceToNat, Int.reduceNeg, Int.reduceLT, Int.reduceLE, Int.reduceEq, reduceCtorEq, Int.natCast_zero, Int.natCast_one, Int.cast_ofNat_Int, Bool.not_not, false_eq_decide, true_eq_decide, hread0, hreadk, read_cons0, read_consk, astore_h0, astore_hk, hget0, hgetk, hset0, hsetk, hlen, hcat, Nat.add_assoc, Nat.add_zero, Nat.zero_add, List.length_append, and_true, true_and, AV.flat, *, -hK, -ck, -rd, -sh, -hnb, -tw, -hjs, -hplen, -hpst, -hp0, -hpget, -hnod, -hbk, -hq1, -hq2] | refine WC.call (ck _) ?_ | refine WC.call (rd _) ?_ | with_reducible refine IfB_dec (fun h => ?_) (fun h => ?_) | with_reducible refine Guard_dec (fun h => ?_) (fun h => ?_) | with_reducible refine Guard_ndec (fun h => ?_) (fun h => ?_) | with_reducible refine Guard_not (fun h => ?_) (fun h => ?_) | with_reducible refine IfB_ndec (fun h => ?_) (fun h => ?_) | with_reducible refine IfB_not (fun h => ?_) (fun h => ?_) | with_reducible refine Guard_split (fun h => ?_) (fun h => ?_) | with_reducible refine IfB_split (fun h => ?_) (fun h => ?_))
  refine (tw _).mono ?_
  rintro _ H1 ⟨⟨wo, ps, rfl, W0⟩, kH⟩
  clear tw ck rd
  simp only [List.length_append, List.length_cons, List.length_nil, Nat.zero_add, Nat.reduceAdd] at W0
  obtain ⟨p, hwo, W⟩ := W0.toO hnb
  subst hwo
  clear W0
  have y0 : H1[H.length]? = some (⟨[.int .i64 nx, boxE.lst bs], 0, .full⟩ : Blk) := kH.get (by rw [hget0]; rfl) (by simp)
  have hH1 : H.length + 3 ≤ H1.length := by have := kH.len; simpa using this
  have y1 : H1[H.length + 1]? = some (⟨[.int .i64 0, .nils], 0, .full⟩ : Blk) := kH.get (by rw [hgetk]; rfl) (by simp)
  have y2 : H1[H.length + 2]? = some (⟨[.int .i64 0, .int .u8 0, .int .u8 0, .int .i64 0, .nils, .str [], .int .u32 0, .int .i64 0, .int .u64 0, .int .u64 0, .int .i64 0, .int .i64 0], 0, .full⟩ : Blk) := kH.get (by rw [hgetk]; rfl) (by simp)
  obtain ⟨x, hx, hgx, ow, hxp⟩ := W.get (i := k) hk
  rw [hbk] at ow
  have W1 := W.keep (Keep.app none H1 [(⟨[.int .i64 nx, .sl p 0 bs.length none], 0, .full⟩ : Blk)])
  have ad := BxO.addr (p := p) (T' := T) se22 hk
  have rd := W1.read hx
  obtain ⟨b0, o0, ai, rd0, hb0⟩ := (ow.keep0 (Keep.app none H1 [(⟨[.int .i64 nx, .sl p 0 bs.length none], 0, .full⟩ : Blk)])).at_ (by decide) se31 (i := 0) (by simp) (k := .i64) (z := 0) rfl
  rw [List.getElem_cons_zero, tktE_cells] at rd0
  rw [show tktE.sz = 12 from rfl] at rd0
  have hxo := ow.one
  have y0b := get_app y0 [(⟨[.int .i64 nx, .sl p 0 bs.length none], 0, .full⟩ : Blk), (⟨[.int .i64 t.num, .int .u8 t.kind, .int .u8 t.cmd.kind, .int .i64 t.cmd.ten, Enc.str.lst t.cmd.keys, .str t.cmd.val, .int .u32 t.cmd.flags, .int .i64 t.cmd.for_, .int .u64 t.cmd.uniq, .int .u64 t.cmd.by_, .int .i64 t.ten, .int .i64 t.to], 0, .full⟩ : Blk)]
  repeat' (first | simp only [go_sem, Nat.reduceLT, Nat.reduceEqDiff, Nat.reduceAdd, Nat.reduceMul, Nat.reduceSub, Nat.reduceLeDiff, Int.reduceToNat, Int.reduceNeg, Int.reduceLT, Int.reduceLE, Int.reduceEq, reduceCtorEq, Int.natCast_zero, Int.natCast_one, Int.cast_ofNat_Int, Bool.not_not, false_eq_decide, true_eq_decide, hread0, hreadk, read_cons0, read_consk, astore_h0, astore_hk, hget0, hgetk, hset0, hsetk, hlen, hcat, Nat.add_assoc, Nat.add_zero, Nat.zero_add, List.length_append, and_true, true_and, AV.flat, hxo, one_solid hxo, one_cells hxo, y0b, get_app y0b, read_get y0b, read_app y0b, *, -hK, -y0, -sh, -hnb, -hjs, -hplen, -hpst, -hp0, -hpget, -hnod, -hbk, -hq1, -hq2, -W, -W1, -kH, -hH1, -y1, -y2, -hx, -hgx, -ow, -hxp, -hb0] | with_reducible refine IfB_dec (fun h => ?_) (fun h => ?_) | with_reducible refine Guard_dec (fun h => ?_) (fun h => ?_) | with_reducible refine Guard_ndec (fun h => ?_) (fun h => ?_) | with_reducible refine Guard_not (fun h => ?_) (fun h => ?_) | with_reducible refine IfB_ndec (fun h => ?_) (fun h => ?_) | with_reducible refine IfB_not (fun h => ?_) (fun h => ?_) | with_reducible refine Guard_split (fun h => ?_) (fun h => ?_) | with_reducible refine IfB_split (fun h => ?_) (fun h => ?_))
  have x3 : (H1 ++ [(⟨[.int .i64 nx, .sl p 0 bs.length none], 0, .full⟩ : Blk), (⟨[.int .i64 t.num, .int .u8 t.kind, .int .u8 t.cmd.kind, .int .i64 t.cmd.ten, Enc.str.lst t.cmd.keys, .str t.cmd.val, .int .u32 t.cmd.flags, .int .i64 t.cmd.for_, .int .u64 t.cmd.uniq, .int .u64 t.cmd.by_, .int .i64 t.ten, .int .i64 t.to], 0, .full⟩ : Blk)])[H1.length]? = some (⟨[.int .i64 nx, .sl p 0 bs.length none], 0, .full⟩ : Blk) := by simp
  refine (sh _).mono ?_
  rintro _ J9 ⟨rfl, hJ9⟩
  subst hJ9
  clear sh y0b y0
  repeat' (first | simp only [go_sem, Nat.reduceLT, Nat.reduceEqDiff, Nat.reduceAdd, Nat.reduceMul, Nat.reduceSub, Nat.reduceLeDiff, Int.reduceToNat, Int.reduceNeg, Int.reduceLT, Int.reduceLE, Int.reduceEq, reduceCtorEq, Int.natCast_zero, Int.natCast_one, Int.cast_ofNat_Int, Bool.not_not, false_eq_decide, true_eq_decide, hread0, hreadk, read_cons0, read_consk, astore_h0, astore_hk, hget0, hgetk, hset0, hsetk, hlen, hcat, Nat.add_assoc, Nat.add_zero, Nat.zero_add, List.length_append, and_true, true_and, AV.flat, x3, get_app x3, read_get x3, read_app x3, hxo, one_solid hxo, one_cells hxo, *, -hK, -hnb, -hjs, -hplen, -hpst, -hp0, -hpget, -hnod, -hbk, -hq1, -hq2, -W, -W1, -kH, -hH1, -y1, -y2, -hx, -hgx, -ow, -hxp, -hb0, -rd, -rd0, -ai, -ad] | with_reducible refine IfB_dec (fun h => ?_) (fun h => ?_) | with_reducible refine Guard_dec (fun h => ?_) (fun h => ?_) | with_reducible refine Guard_ndec (fun h => ?_) (fun h => ?_) | with_reducible refine Guard_not (fun h => ?_) (fun h => ?_) | with_reducible refine IfB_ndec (fun h => ?_) (fun h => ?_) | with_reducible refine IfB_not (fun h => ?_) (fun h => ?_) | with_reducible refine Guard_split (fun h => ?_) (fun h => ?_) | with_reducible refine IfB_split (fun h => ?_) (fun h => ?_))
  have hpl := W.lt
  have hpg := W.ge
  generalize hG : (H1 ++ [(⟨[.int .i64 nx, .sl p 0 bs.length none], 0, .full⟩ : Blk), (⟨[.int .i64 t.num, .int .u8 t.kind, .int .u8 t.cmd.kind, .int .i64 t.cmd.ten, Enc.str.lst t.cmd.keys, .str t.cmd.val, .int .u32 t.cmd.flags, .int .i64 t.cmd.for_, .int .u64 t.cmd.uniq, .int .u64 t.cmd.by_, .int .i64 t.ten, .int .i64 t.to], 0, .full⟩ : Blk)] : Heap) = G
  have x1 : G[H.length + 1]? = some (⟨[.int .i64 0, .nils], 0, .full⟩ : Blk) := by rw [← hG]; exact get_app y1 _
  have x2 : G[H.length + 2]? = some (⟨[.int .i64 0, .int .u8 0, .int .u8 0, .int .i64 0, .nils, .str [], .int .u32 0, .int .i64 0, .int .u64 0, .int .u64 0, .int .i64 0, .int .i64 0], 0, .full⟩ : Blk) := by rw [← hG]; exact get_app y2 _
  have x4 : G[H1.length + 1]? = some (⟨[.int .i64 t.num, .int .u8 t.kind, .int .u8 t.cmd.kind, .int .i64 t.cmd.ten, Enc.str.lst t.cmd.keys, .str t.cmd.val, .int .u32 t.cmd.flags, .int .i64 t.cmd.for_, .int .u64 t.cmd.uniq, .int .u64 t.cmd.by_, .int .i64 t.ten, .int .i64 t.to], 0, .full⟩ : Blk) := by rw [← hG]; simp
  rw [hG] at x3
  have kG : Keep none H G := by rw [← hG]; exact (((Keep.app none H _).trans kH).trans (Keep.app none _ _))
  have WG : TlO (H.length + 3) G p ps bs := by rw [← hG]; exact (W.keep (Keep.app none H1 _)).tl
  generalize H1.length = ob at *
  clear hG y1 y2 kH W W1 hx hgx ow hxp hb0 rd rd0 ai ad hxo
  rw [← hp0] at WG
  refine WX_loopS [4, 5, 7, 8, 9] (fun k fr' J => ∃ (i : Nat) (qs : List AV), k = js.length - i ∧ i ≤ js.length ∧ fr'.get 10 = .int .i64 i ∧ Keep none H J ∧ J[H.length + 1]? = some (⟨[.int .i64 0, .nils], 0, .full⟩ : Blk) ∧ J[H.length + 2]? = some (⟨[.int .i64 0, .int .u8 0, .int .u8 0, .int .i64 0, .nils, .str [], .int .u32 0, .int .i64 0, .int .u64 0, .int .u64 0, .int .i64 0, .int .i64 0], 0, .full⟩ : Blk) ∧ J[ob]? = some (⟨[.int .i64 nx, .sl p 0 bs.length none], 0, .full⟩ : Blk) ∧ J[ob + 1]? = some (⟨[.int .i64 t.num, .int .u8 t.kind, .int .u8 t.cmd.kind, .int .i64 t.cmd.ten, Enc.str.lst t.cmd.keys, .str t.cmd.val, .int .u32 t.cmd.flags, .int .i64 t.cmd.for_, .int .u64 t.cmd.uniq, .int .u64 t.cmd.by_, .int .i64 t.ten, .int .i64 t.to], 0, .full⟩ : Blk) ∧ TlO (H.length + 3) J p qs (pb (js.take i))) js.length ⟨0, ps, rfl, by omega, by simp only [go_sem, Nat.reduceLT, Nat.reduceEqDiff, Nat.reduceAdd, Nat.reduceMul, Nat.reduceSub, Nat.reduceLeDiff, Int.reduceToNat, Int.reduceNeg, Int.reduceLT, Int.reduceLE, Int.reduceEq, reduceCtorEq]; rfl, kG, x1, x2, x3, x4, WG⟩ ?_
  clear WG x1 x2 x3 x4 kG
  rintro kn fr' J A R hA hs hg hR ⟨i, qs, rfl, hi, f10, kJ, g1, g2, g3, g4, W⟩
  have s4 := hg 4 (by decide)
  have s5 := hg 5 (by decide)
  have s7 := hg 7 (by decide)
  have s8 := hg 8 (by decide)
  have s9 := hg 9 (by decide)
  simp only [Fr.get_put, Fr.get_init, List.getD_cons_zero, List.getD_cons_succ, Nat.reduceEqDiff, if_true, if_false] at s4 s5 s7 s8 s9
  refine wx_sound hT _ ?_
  have hJl := (List.getElem?_eq_some_iff.1 g4).1
  have hpl2 := W.lt
  by_cases hli : i < js.length
  rotate_left
  · have i5 : ¬ (i : Int) < js.length := by omega
    have hie : i = js.length := by omega
    rw [hie, List.take_length] at W
    have wn : 1 = 1 := rfl
    repeat' (first | simp only [go_sem, Nat.reduceLT, Nat.reduceEqDiff, Nat.reduceAdd, Nat.reduceMul, Nat.reduceSub, Nat.reduceLeDiff, Int.reduceToNat, Int.reduceNeg, Int.reduceLT, Int.reduceLE, Int.reduceEq, reduceCtorEq, Int.natCast_zero, Int.natCast_one, Int.cast_ofNat_Int, Bool.not_not, false_eq_decide, true_eq_decide, hread0, hreadk, read_cons0, read_consk, astore_h0, astore_hk, hget0, hgetk, hset0, hsetk, hlen, hcat, Nat.add_assoc, Nat.add_zero, Nat.zero_add, List.length_append, and_true, true_and, AV.flat, g3, get_app g3, read_get g3, read_app g3, g4, get_app g4, read_get g4, read_app g4, *, -hK, -hnb, -hjs, -hplen, -hpst, -hp0, -hpget, -hnod, -hbk, -hq1, -hq2, -W, -kJ, -g1, -g2, -hli, -hie, -hJl, -hpl2] | with_reducible refine IfB_dec (fun h => ?_) (fun h => ?_) | with_reducible refine Guard_dec (fun h => ?_) (fun h => ?_) | with_reducible refine Guard_ndec (fun h => ?_) (fun h => ?_) | with_reducible refine Guard_not (fun h => ?_) (fun h => ?_) | with_reducible refine IfB_ndec (fun h => ?_) (fun h => ?_) | with_reducible refine IfB_not (fun h => ?_) (fun h => ?_) | with_reducible refine Guard_split (fun h => ?_) (fun h => ?_) | with_reducible refine IfB_split (fun h => ?_) (fun h => ?_))
    refine WX_rows hT hmix [(0, none), (1, none), (2, some [false, true]), (3, some [true, true, true]), (4, none)] (by kernel_rfl) ?_
    have u2 : (List.set J (H.length + 1) (⟨[.int .i64 nx, .sl p 0 bs.length none], 0, .full⟩ : Blk))[H.length + 2]? = some (⟨[.int .i64 0, .int .u8 0, .int .u8 0, .int .i64 0, .nils, .str [], .int .u32 0, .int .i64 0, .int .u64 0, .int .u64 0, .int .i64 0, .int .i64 0], 0, .full⟩ : Blk) := by rw [List.getElem?_set_ne (by omega)]; exact g2
    have u3 : (List.set J (H.length + 1) (⟨[.int .i64 nx, .sl p 0 bs.length none], 0, .full⟩ : Blk))[ob]? = some (⟨[.int .i64 nx, .sl p 0 bs.length none], 0, .full⟩ : Blk) := by rw [List.getElem?_set_ne (by omega)]; exact g3
    have u4 : (List.set J (H.length + 1) (⟨[.int .i64 nx, .sl p 0 bs.length none], 0, .full⟩ : Blk))[ob + 1]? = some (⟨[.int .i64 t.num, .int .u8 t.kind, .int .u8 t.cmd.kind, .int .i64 t.cmd.ten, Enc.str.lst t.cmd.keys, .str t.cmd.val, .int .u32 t.cmd.flags, .int .i64 t.cmd.for_, .int .u64 t.cmd.uniq, .int .u64 t.cmd.by_, .int .i64 t.ten, .int .i64 t.to], 0, .full⟩ : Blk) := by rw [List.getElem?_set_ne (by omega)]; exact g4
    have W2 := (W.low (G := List.set (List.set J (H.length + 1) (⟨[.int .i64 nx, .sl p 0 bs.length none], 0, .full⟩ : Blk)) (H.length + 2) (⟨[.int .i64 t.num, .int .u8 t.kind, .int .u8 t.cmd.kind, .int .i64 t.cmd.ten, Enc.str.lst t.cmd.keys, .str t.cmd.val, .int .u32 t.cmd.flags, .int .i64 t.cmd.for_, .int .u64 t.cmd.uniq, .int .u64 t.cmd.by_, .int .i64 t.ten, .int .i64 t.to], 0, .full⟩ : Blk)) fun b h1 h2 => by rw [List.getElem?_set_ne (by omega), List.getElem?_set_ne (by omega)]).mono (m2 := H.length) (by omega)
    have kF : Keep none H (List.set (List.set J (H.length + 1) (⟨[.int .i64 nx, .sl p 0 bs.length none], 0, .full⟩ : Blk)) (H.length + 2) (⟨[.int .i64 t.num, .int .u8 t.kind, .int .u8 t.cmd.kind, .int .i64 t.cmd.ten, Enc.str.lst t.cmd.keys, .str t.cmd.val, .int .u32 t.cmd.flags, .int .i64 t.cmd.for_, .int .u64 t.cmd.uniq, .int .u64 t.cmd.by_, .int .i64 t.ten, .int .i64 t.to], 0, .full⟩ : Blk)) := ⟨by rw [List.length_set, List.length_set]; exact kJ.len, fun b hb2 _ => by rw [List.getElem?_set_ne (by omega), List.getElem?_set_ne (by omega)]; exact kJ.at_ b hb2 (by simp)⟩
    have th := W2.thaw
    rw [hplen] at th
    have u6 : (List.set (List.set J (H.length + 1) (⟨[.int .i64 nx, .sl p 0 bs.length none], 0, .full⟩ : Blk)) (H.length + 2) (⟨[.int .i64 t.num, .int .u8 t.kind, .int .u8 t.cmd.kind, .int .i64 t.cmd.ten, Enc.str.lst t.cmd.keys, .str t.cmd.val, .int .u32 t.cmd.flags, .int .i64 t.cmd.for_, .int .u64 t.cmd.uniq, .int .u64 t.cmd.by_, .int .i64 t.ten, .int .i64 t.to], 0, .full⟩ : Blk))[H.length + 1]? = some (⟨[.int .i64 nx, .sl p 0 bs.length none], 0, .full⟩ : Blk) := by rw [List.getElem?_set_ne (by omega), List.getElem?_set_self (by omega)]
    repeat' (first | simp only [go_sem, Nat.reduceLT, Nat.reduceEqDiff, Nat.reduceAdd, Nat.reduceMul, Nat.reduceSub, Nat.reduceLeDiff, Int.reduceToNat, Int.reduceNeg, Int.reduceLT, Int.reduceLE, Int.reduceEq, reduceCtorEq, Int.natCast_zero, Int.natCast_one, Int.cast_ofNat_Int, Bool.not_not, false_eq_decide, true_eq_decide, hread0, hreadk, read_cons0, read_consk, astore_h0, astore_hk, hget0, hgetk, hset0, hsetk, hlen, hcat, Nat.add_assoc, Nat.add_zero, Nat.zero_add, List.length_append, and_true, true_and, AV.flat, g3, get_app g3, read_get g3, read_app g3, g4, get_app g4, read_get g4, read_app g4, u6, get_app u6, read_get u6, read_app u6, u3, get_app u3, read_get u3, read_app u3, u4, get_app u4, read_get u4, read_app u4, g1, get_app g1, read_get g1, read_app g1, astore_get g1, astore_app g1, get_set g1, get_set_app g1, read_set g1, read_set_app g1, astore_set g1, astore_set_app g1, List.set_set, hget0s, hgetks, hread0s, hreadks, List.length_set, u2, get_app u2, read_get u2, read_app u2, astore_get u2, astore_app u2, get_set u2, get_set_app u2, read_set u2, read_set_app u2, astore_set u2, astore_set_app u2, List.set_set, hget0s, hgetks, hread0s, hreadks, List.length_set, *, -hK, -hnb, -hjs, -hplen, -hpst, -hp0, -hpget, -hnod, -hbk, -hq1, -hq2, -W, -kJ, -hli, -hie, -hJl, -hpl2, -W2, -kF, -th] | with_reducible refine IfB_dec (fun h => ?_) (fun h => ?_) | with_reducible refine Guard_dec (fun h => ?_) (fun h => ?_) | with_reducible refine Guard_ndec (fun h => ?_) (fun h => ?_) | with_reducible refine Guard_not (fun h => ?_) (fun h => ?_) | with_reducible refine IfB_ndec (fun h => ?_) (fun h => ?_) | with_reducible refine IfB_not (fun h => ?_) (fun h => ?_) | with_reducible refine Guard_split (fun h => ?_) (fun h => ?_) | with_reducible refine IfB_split (fun h => ?_) (fun h => ?_))
    refine hK _ _ ?_ kF
    exact Thaw.tup_row (l' := [_, _, _]) ⟨Thaw.agg_row ⟨.int _ _, th, trivial⟩, Thaw.agg_row ⟨.int _ _, .int _ _, .int _ _, .int _ _, .lst _ _, .str _, .int _ _, .int _ _, .int _ _, .int _ _, .int _ _, .int _ _, trivial⟩, .int _ _, trivial⟩
  have i5 : (i : Int) < js.length := by omega
  have e7 := inc_id hli (by omega)
  have e8 := at_enc (E := Enc.int .i64) (T := T) (k := .i64) se27 hli rfl
  rw [int_cells] at e8
  obtain ⟨kk, hkk, hkl, hkne⟩ := hjs _ (List.getElem_mem hli)
  have hpl1 : kk < (pb (js.take i)).length := by rw [hplen]; exact hkl
  obtain ⟨x, hx, hgx, ow, hxp⟩ := W.get (i := kk) hpl1
  have hold : (pb (js.take i))[kk] = bs[kk] := by
    have h1 := hpget (js.take i) kk (fun j hj => by obtain ⟨z, hz, _⟩ := hjs j (List.mem_of_mem_take hj); exact ⟨z, hz⟩) (by rw [← hkk]; exact nodup_take hnod hli)
    rw [List.getElem?_eq_getElem hpl1, List.getElem?_eq_getElem hkl] at h1
    exact Option.some.inj h1
  obtain ⟨u, ul, hu⟩ : ∃ u ul, bs[kk] = u :: ul := by
    cases h : bs[kk] with
    | nil => exact absurd h hkne
    | cons u ul => exact ⟨u, ul, rfl⟩
  rw [hold, hu] at ow
  have hst : pb (js.take (i + 1)) = (pb (js.take i)).set kk ul := by
    rw [List.take_succ_eq_append_getElem hli, hkk, hpst, List.getElem?_eq_getElem hpl1, hold, hu]; rfl
  have back2 : ∀ fr2 J3 qs2, A fr2 → fr2.get 10 = .int .i64 ((i + 1 : Nat) : Int) → Keep none H J3 → J3[H.length + 1]? = some (⟨[.int .i64 0, .nils], 0, .full⟩ : Blk) → J3[H.length + 2]? = some (⟨[.int .i64 0, .int .u8 0, .int .u8 0, .int .i64 0, .nils, .str [], .int .u32 0, .int .i64 0, .int .u64 0, .int .u64 0, .int .i64 0, .int .i64 0], 0, .full⟩ : Blk) → J3[ob]? = some (⟨[.int .i64 nx, .sl p 0 bs.length none], 0, .full⟩ : Blk) → J3[ob + 1]? = some (⟨[.int .i64 t.num, .int .u8 t.kind, .int .u8 t.cmd.kind, .int .i64 t.cmd.ten, Enc.str.lst t.cmd.keys, .str t.cmd.val, .int .u32 t.cmd.flags, .int .i64 t.cmd.for_, .int .u64 t.cmd.uniq, .int .u64 t.cmd.by_, .int .i64 t.ten, .int .i64 t.to], 0, .full⟩ : Blk) → TlO (H.length + 3) J3 p qs2 ((pb (js.take i)).set kk ul) → R fr2 J3 := fun fr2 J3 qs2 ha j1 j2 j3 j4 j5 j6 j7 => hR fr2 J3 ha (js.length - (i + 1)) (by omega) ⟨i + 1, qs2, rfl, by omega, j1, j2, j3, j4, j5, j6, by rw [hst]; exact j7⟩
  rw [hkk] at e8
  have ad := BxO.addr (p := p) (T' := T) se22 hkl
  obtain ⟨y, hy1, hy2, hy3⟩ := ow.tail (T' := T) se31
  have rd := W.read hx
  have hys : y.solid = true ∧ y.cells = [y] := by
    rcases hy2.1.2 with ⟨rfl, _⟩ | ⟨rfl, _⟩ | ⟨b, o, cap, B, rfl, _⟩ <;> exact ⟨rfl, rfl⟩
  obtain ⟨st, rest, hsto, w1⟩ := W.store (T' := T) hx (te := 31) (by simp only [asize, td31, Option.map_some]) hys.1 hys.2
  have W2 := W.upd hx hy2 hy3 rest st hsto
  have hxo := ow.1.one
  have hyo := hy2.1.one
  have hpg2 := W.ge
  have kJ3 : Keep none H (List.set J p ⟨qs.set kk y ++ rest, 1, st⟩) := ⟨by rw [List.length_set]; exact kJ.len, fun b hb _ => by rw [List.getElem?_set_ne (by omega)]; exact kJ.at_ b hb (by simp)⟩
  generalize hG3 : (List.set J p ⟨qs.set kk y ++ rest, 1, st⟩ : Heap) = J4 at *
  have y3 : J4[H.length + 1]? = some (⟨[.int .i64 0, .nils], 0, .full⟩ : Blk) := by rw [← hG3, List.getElem?_set_ne (by omega)]; exact g1
  have y4 : J4[H.length + 2]? = some (⟨[.int .i64 0, .int .u8 0, .int .u8 0, .int .i64 0, .nils, .str [], .int .u32 0, .int .i64 0, .int .u64 0, .int .u64 0, .int .i64 0, .int .i64 0], 0, .full⟩ : Blk) := by rw [← hG3, List.getElem?_set_ne (by omega)]; exact g2
  have y5 : J4[ob]? = some (⟨[.int .i64 nx, .sl p 0 bs.length none], 0, .full⟩ : Blk) := by rw [← hG3, List.getElem?_set_ne (by omega)]; exact g3
  have y6 : J4[ob + 1]? = some (⟨[.int .i64 t.num, .int .u8 t.kind, .int .u8 t.cmd.kind, .int .i64 t.cmd.ten, Enc.str.lst t.cmd.keys, .str t.cmd.val, .int .u32 t.cmd.flags, .int .i64 t.cmd.for_, .int .u64 t.cmd.uniq, .int .u64 t.cmd.by_, .int .i64 t.ten, .int .i64 t.to], 0, .full⟩ : Blk) := by rw [← hG3, List.getElem?_set_ne (by omega)]; exact g4
  clear hG3 hR hst hp0 hpst hplen hpget hjs hkk hkne hold hu hys hsto hnod
  repeat' (first | simp only [go_sem, Nat.reduceLT, Nat.reduceEqDiff, Nat.reduceAdd, Nat.reduceMul, Nat.reduceSub, Nat.reduceLeDiff, Int.reduceToNat, Int.reduceNeg, Int.reduceLT, Int.reduceLE, Int.reduceEq, reduceCtorEq, Int.natCast_zero, Int.natCast_one, Int.cast_ofNat_Int, Bool.not_not, false_eq_decide, true_eq_decide, hread0, hreadk, read_cons0, read_consk, astore_h0, astore_hk, hget0, hgetk, hset0, hsetk, hlen, hcat, Nat.add_assoc, Nat.add_zero, Nat.zero_add, List.length_append, and_true, true_and, AV.flat, g3, get_app g3, read_get g3, read_app g3, hxo, one_solid hxo, one_cells hxo, hyo, one_solid hyo, one_cells hyo, *, -hK, -hnb, -hbk, -hq1, -hq2, -W, -kJ, -g1, -g2, -g4, -hli, -hJl, -hpl2, -back2, -hpl1, -hx, -hgx, -ow, -hxp, -hy2, -hy3, -W2, -hpg2, -kJ3, -y3, -y4, -y5, -y6] | with_reducible refine IfB_dec (fun h => ?_) (fun h => ?_) | with_reducible refine Guard_dec (fun h => ?_) (fun h => ?_) | with_reducible refine Guard_ndec (fun h => ?_) (fun h => ?_) | with_reducible refine Guard_not (fun h => ?_) (fun h => ?_) | with_reducible refine IfB_ndec (fun h => ?_) (fun h => ?_) | with_reducible refine IfB_not (fun h => ?_) (fun h => ?_) | with_reducible refine Guard_split (fun h => ?_) (fun h => ?_) | with_reducible refine IfB_split (fun h => ?_) (fun h => ?_))
  refine WX_rows hT hmix [(0, none), (1, none), (2, none), (3, none), (4, none), (5, none), (6, none), (7, none), (8, none), (9, none), (10, none), (11, none), (12, none), (13, none), (14, none), (15, none), (16, some [true, true, true, true, true, true, true, true, true, true, true, true, true, true, true, true])] (by kernel_rfl) ?_
  repeat' (first | simp only [go_sem, Nat.reduceLT, Nat.reduceEqDiff, Nat.reduceAdd, Nat.reduceMul, Nat.reduceSub, Nat.reduceLeDiff, Int.reduceToNat, Int.reduceNeg, Int.reduceLT, Int.reduceLE, Int.reduceEq, reduceCtorEq, Int.natCast_zero, Int.natCast_one, Int.cast_ofNat_Int, Bool.not_not, false_eq_decide, true_eq_decide, hread0, hreadk, read_cons0, read_consk, astore_h0, astore_hk, hget0, hgetk, hset0, hsetk, hlen, hcat, Nat.add_assoc, Nat.add_zero, Nat.zero_add, List.length_append, and_true, true_and, AV.flat, g3, get_app g3, read_get g3, read_app g3, hxo, one_solid hxo, one_cells hxo, hyo, one_solid hyo, one_cells hyo, *, -hK, -hnb, -hbk, -hq1, -hq2, -W, -kJ, -g1, -g2, -g4, -hli, -hJl, -hpl2, -back2, -hpl1, -hx, -hgx, -ow, -hxp, -hy2, -hy3, -W2, -hpg2, -kJ3, -y3, -y4, -y5, -y6] | with_reducible refine IfB_dec (fun h => ?_) (fun h => ?_) | with_reducible refine Guard_dec (fun h => ?_) (fun h => ?_) | with_reducible refine Guard_ndec (fun h => ?_) (fun h => ?_) | with_reducible refine Guard_not (fun h => ?_) (fun h => ?_) | with_reducible refine IfB_ndec (fun h => ?_) (fun h => ?_) | with_reducible refine IfB_not (fun h => ?_) (fun h => ?_) | with_reducible refine Guard_split (fun h => ?_) (fun h => ?_) | with_reducible refine IfB_split (fun h => ?_) (fun h => ?_))
  exact back2 _ _ _ (by (repeat (first | exact hs | refine hA _ _ _ (by decide) ?_))) (by simp only [go_sem, Nat.reduceLT, Nat.reduceEqDiff, Nat.reduceAdd, Nat.reduceMul, Nat.reduceSub, Nat.reduceLeDiff, Int.reduceToNat, Int.reduceNeg, Int.reduceLT, Int.reduceLE, Int.reduceEq, reduceCtorEq]) kJ3 y3 y4 y5 y6 W2

end Go.Proofs.Ytkmkhiipiflelaa

