import Derived.Test.YtakmlfbejbelaaaCodeS
set_option linter.unusedSimpArgs false
set_option linter.unusedVariables false
set_option maxRecDepth 100000
set_option maxHeartbeats 4000000
namespace Go.Proofs.Ytakmlfbejbelaaa
open Go Go.Proofs Go.Proofs.PI
theorem u8_wfi {v : Int} (h : (Lit.int .u8 v).wf = true) : 0 ≤ v ∧ v < 256 := by
  obtain ⟨b, rfl⟩ := u8_wf h
  have := b.toNat_lt; omega
theorem u32_wfi {v : Int} (h : (Lit.int .u32 v).wf = true) : 0 ≤ v ∧ v < 4294967296 := by
  simp [Lit.wf, IntKind.min, IntKind.max, IntKind.signed, IntKind.bits] at h; omega
theorem inp_cmdW {n : Nat} {a : AV} (h : InpPV T (n + 4) 45 a) : ∃ c : Cmd, a = c.av ∧ c.Ok ∧ c.keys.length ≤ 140737488355328 ∧ c.val.length ≤ reachBytes := by
  obtain ⟨l, rfl, h'⟩ := h.agg tk45
  obtain ⟨parts, rfl, hl, hp⟩ := InpP.struct tk45 h'
  obtain ⟨p0, p1, p2, p3, p4, p5, p6, p7, rfl⟩ := len8 hl
  obtain ⟨s0, rfl, w0⟩ := InpP.int tk5 (hp 0 _ _ rfl rfl)
  obtain ⟨s1, rfl, -⟩ := InpP.int tk3 (hp 1 _ _ rfl rfl)
  obtain ⟨s2, rfl, -, -, hlen⟩ := InpP.slice (E := Enc.str) (Pr := fun _ => True) tk42 (fun x hx => by obtain ⟨s, rfl, -⟩ := InpP.str tk9 hx; exact ⟨s, rfl, trivial⟩) (hp 2 _ _ rfl rfl)
  obtain ⟨s3, rfl, w3⟩ := InpP.str tk9 (hp 3 _ _ rfl rfl)
  obtain ⟨s4, rfl, w4⟩ := InpP.int tk43 (hp 4 _ _ rfl rfl)
  obtain ⟨s5, rfl, -⟩ := InpP.int tk3 (hp 5 _ _ rfl rfl)
  obtain ⟨s6, rfl, w6⟩ := InpP.int tk27 (hp 6 _ _ rfl rfl)
  obtain ⟨s7, rfl, w7⟩ := InpP.int tk27 (hp 7 _ _ rfl rfl)
  exact ⟨⟨s0, s1, s2, s3, s4, s5, s6, s7⟩, rfl, ⟨u8_wfi w0, u32_wfi w4, u64_wf w6, u64_wf w7⟩, by have : s2.length * 16 ≤ reachBytes := hlen _ td9; unfold reachBytes at this; show s2.length ≤ _; omega, w3⟩
theorem inp_bytes {n : Nat} {a : AV} (h : InpPV T (n + 2) 30 a) : ∃ b : List UInt8, a = Enc.u8.lst b ∧ b.length ≤ 140737488355328 := by
  obtain ⟨xs, rfl, -, -, hd⟩ := InpPV.slice (E := Enc.u8) (Pr := fun _ => True) tk30 (fun x hx => by obtain ⟨v, rfl, hv⟩ := InpP.int tk5 hx; obtain ⟨b, rfl⟩ := u8_wf hv; exact ⟨b, rfl, trivial⟩) h
  exact ⟨xs, rfl, by have := hd _ td5; unfold reachBytes at this; simp at this; omega⟩
theorem codeCommands_walk (avs : List AV) (h : InpPAll T 9 [45, 30] avs) : WC Try.prog 5 avs [] fun v _ => v = .bool true := by
  obtain ⟨a0, _, rfl, h0, h⟩ := h.cons
  obtain ⟨a1, _, rfl, h1, h⟩ := h.cons
  obtain rfl := h.nil
  obtain ⟨c, rfl, ho, hn, hvl⟩ := inp_cmdW h0
  obtain ⟨b, rfl, hb⟩ := inp_bytes h1
  clear h0 h1 h
  generalize ([] : Heap) = H
  have se := fun (H : Heap) (l : List UInt8) => str_enc (T := T) (H := H) (l := l) se30 tk9 tk5
  refine WC_of_K fun K hK => ?_
  refine WC_of_body hT Try.func5 rfl (by simp [Try.f5]) (by simp [Try.f5]) (wx_sound hT _ ?_)
  simp only [Try.f5]
  repeat' (first | simp only [go_sem, Nat.reduceLT, Nat.reduceEqDiff, Nat.reduceAdd, Nat.reduceMul, Nat.reduceSub, Nat.reduceLeDiff, Int.reduceToNat, Int.reduceNeg, Int.reduceLT, Int.reduceLE, Int.reduceEq, reduceCtorEq, Int.natCast_zero, Int.natCast_one, Int.cast_ofNat_Int, Bool.not_not, false_eq_decide, true_eq_decide, hread0, hreadk, read_cons0, read_consk, astore_h0, astore_hk, hget0, hgetk, hset0, hsetk, hlen, hcat, Nat.add_assoc, Nat.add_zero, Nat.zero_add, List.length_append, and_true, true_and, AV.flat, Cmd.av, *, -hK] | with_reducible refine IfB_dec (fun h => ?_) (fun h => ?_) | with_reducible refine Guard_dec (fun h => ?_) (fun h => ?_) | with_reducible refine Guard_ndec (fun h => ?_) (fun h => ?_) | with_reducible refine Guard_not (fun h => ?_) (fun h => ?_) | with_reducible refine IfB_ndec (fun h => ?_) (fun h => ?_) | with_reducible refine IfB_not (fun h => ?_) (fun h => ?_) | with_reducible refine Guard_split (fun h => ?_) (fun h => ?_) | with_reducible refine IfB_split (fun h => ?_) (fun h => ?_))
  refine WX_loopS [1, 2] (fun k fr' H' => ∃ (i : Nat) (z : Int), k = c.keys.length - i ∧ i ≤ c.keys.length ∧ fr'.get 6 = .int .i64 i ∧ fr'.get 5 = .int .i64 z ∧ H' = H ++ [⟨c.cs, 0, .full⟩]) c.keys.length ⟨0, c.val.length, rfl, by omega, by simp only [go_sem, Nat.reduceLT, Nat.reduceEqDiff, Nat.reduceAdd, Nat.reduceMul, Nat.reduceSub, Nat.reduceLeDiff, Int.reduceToNat, Int.reduceNeg, Int.reduceLT, Int.reduceLE, Int.reduceEq, reduceCtorEq]; rfl, by simp only [go_sem, Nat.reduceLT, Nat.reduceEqDiff, Nat.reduceAdd, Nat.reduceMul, Nat.reduceSub, Nat.reduceLeDiff, Int.reduceToNat, Int.reduceNeg, Int.reduceLT, Int.reduceLE, Int.reduceEq, reduceCtorEq], rfl⟩ ?_
  rintro k fr' H' A R hA hs hg hR ⟨i, z, rfl, hi, f6, f5, rfl⟩
  unfold Cmd.cs at hR ⊢
  have s1 := hg 1 (by decide)
  have s2 := hg 2 (by decide)
  simp only [Fr.get_put, Fr.get_init, List.getD_cons_zero, List.getD_cons_succ, Nat.reduceEqDiff, if_true, if_false] at s1 s2
  refine wx_sound hT _ ?_
  repeat' (first | simp only [go_sem, Nat.reduceLT, Nat.reduceEqDiff, Nat.reduceAdd, Nat.reduceMul, Nat.reduceSub, Nat.reduceLeDiff, Int.reduceToNat, Int.reduceNeg, Int.reduceLT, Int.reduceLE, Int.reduceEq, reduceCtorEq, Int.natCast_zero, Int.natCast_one, Int.cast_ofNat_Int, Bool.not_not, false_eq_decide, true_eq_decide, hread0, hreadk, read_cons0, read_consk, astore_h0, astore_hk, hget0, hgetk, hset0, hsetk, hlen, hcat, Nat.add_assoc, Nat.add_zero, Nat.zero_add, List.length_append, and_true, true_and, AV.flat, *, -hK] | with_reducible refine IfB_dec (fun h => ?_) (fun h => ?_) | with_reducible refine Guard_dec (fun h => ?_) (fun h => ?_) | with_reducible refine Guard_ndec (fun h => ?_) (fun h => ?_) | with_reducible refine Guard_not (fun h => ?_) (fun h => ?_) | with_reducible refine IfB_ndec (fun h => ?_) (fun h => ?_) | with_reducible refine IfB_not (fun h => ?_) (fun h => ?_) | with_reducible refine Guard_split (fun h => ?_) (fun h => ?_) | with_reducible refine IfB_split (fun h => ?_) (fun h => ?_))
  case refine_1.refine_1 =>
    have hlt : i < c.keys.length := by omega
    have e1 := at_enc (E := Enc.str) (T := T) (k := .i64) se42 hlt rfl
    have e3 := inc_id hlt hn
    repeat' (first | simp only [go_sem, Nat.reduceLT, Nat.reduceEqDiff, Nat.reduceAdd, Nat.reduceMul, Nat.reduceSub, Nat.reduceLeDiff, Int.reduceToNat, Int.reduceNeg, Int.reduceLT, Int.reduceLE, Int.reduceEq, reduceCtorEq, Int.natCast_zero, Int.natCast_one, Int.cast_ofNat_Int, Bool.not_not, false_eq_decide, true_eq_decide, hread0, hreadk, read_cons0, read_consk, astore_h0, astore_hk, hget0, hgetk, hset0, hsetk, hlen, hcat, Nat.add_assoc, Nat.add_zero, Nat.zero_add, List.length_append, and_true, true_and, AV.flat, str_cells, *, -hK] | with_reducible refine IfB_dec (fun h => ?_) (fun h => ?_) | with_reducible refine Guard_dec (fun h => ?_) (fun h => ?_) | with_reducible refine Guard_ndec (fun h => ?_) (fun h => ?_) | with_reducible refine Guard_not (fun h => ?_) (fun h => ?_) | with_reducible refine IfB_ndec (fun h => ?_) (fun h => ?_) | with_reducible refine IfB_not (fun h => ?_) (fun h => ?_) | with_reducible refine Guard_split (fun h => ?_) (fun h => ?_) | with_reducible refine IfB_split (fun h => ?_) (fun h => ?_))
    exact hR _ _ (by (repeat (first | exact hs | refine hA _ _ _ (by decide) ?_))) (c.keys.length - (i + 1)) (by omega) ⟨i + 1, _, rfl, by omega, by simp only [go_sem, Nat.reduceLT, Nat.reduceEqDiff, Nat.reduceAdd, Nat.reduceMul, Nat.reduceSub, Nat.reduceLeDiff, Int.reduceToNat, Int.reduceNeg, Int.reduceLT, Int.reduceLE, Int.reduceEq, reduceCtorEq], by simp only [go_sem, Nat.reduceLT, Nat.reduceEqDiff, Nat.reduceAdd, Nat.reduceMul, Nat.reduceSub, Nat.reduceLeDiff, Int.reduceToNat, Int.reduceNeg, Int.reduceLT, Int.reduceLE, Int.reduceEq, reduceCtorEq]; rfl, rfl⟩
  all_goals
    clear hR hA hs hg A R
    have cp := fun J => commandP c ho hn J
    have rp := fun J => refCommandP c ho hn J
    unfold Cmd.av at cp rp
    repeat' (first | simp only [go_sem, Nat.reduceLT, Nat.reduceEqDiff, Nat.reduceAdd, Nat.reduceMul, Nat.reduceSub, Nat.reduceLeDiff, Int.reduceToNat, Int.reduceNeg, Int.reduceLT, Int.reduceLE, Int.reduceEq, reduceCtorEq, Int.natCast_zero, Int.natCast_one, Int.cast_ofNat_Int, Bool.not_not, false_eq_decide, true_eq_decide, hread0, hreadk, read_cons0, read_consk, astore_h0, astore_hk, hget0, hgetk, hset0, hsetk, hlen, hcat, Nat.add_assoc, Nat.add_zero, Nat.zero_add, List.length_append, and_true, true_and, AV.flat, *, -hK, -cp, -rp] | with_reducible refine IfB_dec (fun h => ?_) (fun h => ?_) | with_reducible refine Guard_dec (fun h => ?_) (fun h => ?_) | with_reducible refine Guard_ndec (fun h => ?_) (fun h => ?_) | with_reducible refine Guard_not (fun h => ?_) (fun h => ?_) | with_reducible refine IfB_ndec (fun h => ?_) (fun h => ?_) | with_reducible refine IfB_not (fun h => ?_) (fun h => ?_) | with_reducible refine Guard_split (fun h => ?_) (fun h => ?_) | with_reducible refine IfB_split (fun h => ?_) (fun h => ?_))
    all_goals try (exact hK _ _ rfl)
  all_goals
    refine append_enc (E := Enc.u8) (xs := []) (ys := b) (OwnE.nils _ (H.length + 1) _) se30 az5 td5 (src_enc tk30) (by decide) (by show (0 + _) * 2 ≤ _; omega) (by simp) ?_
    intro v H1 o1 k1 hn1
    have hv := o1.one
    rw [List.nil_append] at o1
    have hb0 := k1.get (b := H.length) (B := ⟨c.cs, 0, .full⟩) (by rw [hget0]; rfl) (by simp [AV.blk])
    unfold Cmd.cs at hb0
    generalize hce : commandL c = ce at *
    obtain ⟨q, e⟩ := ce
    simp only at cp rp
    repeat' (first | simp only [go_sem, Nat.reduceLT, Nat.reduceEqDiff, Nat.reduceAdd, Nat.reduceMul, Nat.reduceSub, Nat.reduceLeDiff, Int.reduceToNat, Int.reduceNeg, Int.reduceLT, Int.reduceLE, Int.reduceEq, reduceCtorEq, Int.natCast_zero, Int.natCast_one, Int.cast_ofNat_Int, Bool.not_not, false_eq_decide, true_eq_decide, hread0, hreadk, read_cons0, read_consk, astore_h0, astore_hk, hget0, hgetk, hset0, hsetk, hlen, hcat, Nat.add_assoc, Nat.add_zero, Nat.zero_add, List.length_append, and_true, true_and, AV.flat, hb0, get_app hb0, read_get hb0, read_app hb0, hv, one_solid hv, one_cells hv, *, -hK, -cp, -rp, -hce] | refine WC.call (cp _) ?_ | refine WC.call (rp _) ?_ | with_reducible refine IfB_dec (fun h => ?_) (fun h => ?_) | with_reducible refine Guard_dec (fun h => ?_) (fun h => ?_) | with_reducible refine Guard_ndec (fun h => ?_) (fun h => ?_) | with_reducible refine Guard_not (fun h => ?_) (fun h => ?_) | with_reducible refine IfB_ndec (fun h => ?_) (fun h => ?_) | with_reducible refine IfB_not (fun h => ?_) (fun h => ?_) | with_reducible refine Guard_split (fun h => ?_) (fun h => ?_) | with_reducible refine IfB_split (fun h => ?_) (fun h => ?_))
    refine WC_freezeE [Enc.u8.lst b] o1 (by decide) ⟨.here, trivial⟩ ?_
    intro G fz
    refine WC.call (ofCommand_spec b hb G) ?_
    have rs := fun J => refOfCommand_spec b hb J
    have hbG := fz.other H.length (fun e => by have := o1.ge e; omega)
    rw [hb0] at hbG
    have hvs : Bs G v b := by
      have := fz.vs (o1.vs (by decide))
      rw [Enc.u8_row] at this; exact this
    have hst := fun L => (hvs.keep0 (Keep.app none G L)).str se30 tk9 tk5
    have sm := fun J => sameCmd01_spec (ofCommandL b).1 (ofCommandL b).1 (by
      rcases ofCommandL_or b with h | h
      · obtain ⟨h1, h2⟩ := ofCommandL_e h
        unfold commandL at h2
        split at h2
        · rename_i hs; have := (shaped_facts hs).2.2.2.2.2.1; omega
        · simp at h2
      · rw [h]; simp [cmd0]) J
    rw [decide_eq_true rfl] at sm
    generalize (ofCommandL b) = oc at *
    obtain ⟨x, g⟩ := oc
    unfold Cmd.av at sm rs ⊢
    simp only at sm rs ⊢
    clear cp rp hce o1 k1 hn1 hb0 fz hvs
    repeat' (first | simp only [go_sem, Nat.reduceLT, Nat.reduceEqDiff, Nat.reduceAdd, Nat.reduceMul, Nat.reduceSub, Nat.reduceLeDiff, Int.reduceToNat, Int.reduceNeg, Int.reduceLT, Int.reduceLE, Int.reduceEq, reduceCtorEq, Int.natCast_zero, Int.natCast_one, Int.cast_ofNat_Int, Bool.not_not, false_eq_decide, true_eq_decide, hread0, hreadk, read_cons0, read_consk, astore_h0, astore_hk, hget0, hgetk, hset0, hsetk, hlen, hcat, Nat.add_assoc, Nat.add_zero, Nat.zero_add, List.length_append, and_true, true_and, AV.flat, hbG, get_app hbG, read_get hbG, read_app hbG, hv, one_solid hv, one_cells hv, *, -hK, -rs, -sm] | refine WC.call (rs _) ?_ | refine WC.call (sm _) ?_ | with_reducible refine IfB_dec (fun h => ?_) (fun h => ?_) | with_reducible refine Guard_dec (fun h => ?_) (fun h => ?_) | with_reducible refine Guard_ndec (fun h => ?_) (fun h => ?_) | with_reducible refine Guard_not (fun h => ?_) (fun h => ?_) | with_reducible refine IfB_ndec (fun h => ?_) (fun h => ?_) | with_reducible refine IfB_not (fun h => ?_) (fun h => ?_) | with_reducible refine Guard_split (fun h => ?_) (fun h => ?_) | with_reducible refine IfB_split (fun h => ?_) (fun h => ?_))
    all_goals first | exact hK _ _ rfl | trace_state
end Go.Proofs.Ytakmlfbejbelaaa
