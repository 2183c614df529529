import Derived.Test.YtphenbpognaddaaBagD
set_option linter.unusedSimpArgs false
set_option linter.unusedVariables false
set_option maxRecDepth 100000
set_option maxHeartbeats 4000000
namespace Go.Proofs.Ytphenbpognaddaa
open Go Go.Proofs Go.Proofs.PI
theorem sendL_len {ls : List (List UInt8)} {m : List UInt8} (hb : ∀ x ∈ ls, x.length ≤ 140737488355328) (hm : m.length ≤ 140737488355328) : (sendL ls m).1.length ≤ 65 ∧ ∀ x ∈ (sendL ls m).1, x.length ≤ 140737488355328 := by
  unfold sendL
  split
  · simp
  · split
    · simp
    · split
      · simp
      · refine ⟨by simp; omega, fun x hx => ?_⟩
        simp at hx
        rcases hx with hx | rfl
        · exact hb _ hx
        · exact hm
theorem stepL_len {ls : List (List UInt8)} {k a : Int} (hb : ∀ x ∈ ls, x.length ≤ 140737488355328) : (stepL ls k a).1.length ≤ 64 ∧ (∀ x ∈ (stepL ls k a).1, x.length ≤ 140737488355328) ∧ (stepL ls k a).2.1.length ≤ 140737488355328 := by
  unfold stepL
  split
  · simp
  · split
    · simp
    · split
      · simp
      · rename_i h1 h2 h3
        have hl : (if k = 1 then ls else ls.eraseIdx a.toNat).length ≤ 64 := by
          split
          · omega
          · have := List.length_eraseIdx_le ls a.toNat; omega
        refine ⟨hl, fun x hx => ?_, ?_⟩
        · simp only at hx
          split at hx
          · exact hb _ hx
          · exact hb _ (List.mem_of_mem_eraseIdx hx)
        · simp only
          split
          · simp
          · have hi : a.toNat < ls.length := by omega
            rw [List.getD_eq_getElem?_getD, List.getElem?_eq_getElem hi]
            exact hb _ (List.getElem_mem hi)
theorem bagSteps_walk (H : Heap) (avs : List AV) (h : InpAll T H 9 [24, 22, 5, 3] avs) : WC Try.prog 4 avs H fun v _ => v = .bool true := by
  obtain ⟨a0, _, rfl, h0, h⟩ := h.cons
  obtain ⟨a1, _, rfl, h1, h⟩ := h.cons
  obtain ⟨a2, _, rfl, h2, h⟩ := h.cons
  obtain ⟨a3, _, rfl, h3, h⟩ := h.cons
  obtain rfl := h.nil
  obtain ⟨ls, hl, hll, hle⟩ := Inp.byteses tk24 (by simp [asize, td22]) tk22 tk5 (by simp [asize, td5]) h0
  obtain ⟨m, hm, hml⟩ := Inp.bytes tk22 tk5 (by simp [asize, td5]) h1
  obtain ⟨k, rfl, -⟩ := Inp.int tk5 h2
  obtain ⟨at_, rfl, -⟩ := Inp.int tk3 h3
  clear h0 h1 h2 h3
  have hml := hml _ td5
  have hll := hll _ td22
  have hle : ∀ x ∈ ls, x.length ≤ 140737488355328 := fun x hx => by have := hle x hx _ td5; unfold reachBytes at this; simp at this; omega
  unfold reachBytes at hml hll
  simp only [Nat.mul_one] at hml hll
  refine WC_of_K fun K hK => ?_
  refine WC_of_body hT Try.func4 rfl (by simp [Try.f4]) (by simp [Try.f4]) (wx_sound hT _ ?_)
  simp only [Try.f4]
  simp only [go_sem, Nat.reduceLT, Nat.reduceEqDiff, Nat.reduceAdd, Nat.reduceMul, Nat.reduceSub, Nat.reduceLeDiff, Int.reduceToNat, Int.reduceNeg, Int.reduceLT, Int.reduceLE, Int.reduceEq, reduceCtorEq]
  refine (heavy_spec a0 ls (by omega) _ hl).mono ?_
  rintro r H' ⟨⟨bb, rfl, hbb⟩, rfl⟩
  cases bb
  rotate_left
  · repeat' (first | simp only [go_sem, Nat.reduceLT, Nat.reduceEqDiff, Nat.reduceAdd, Nat.reduceMul, Nat.reduceSub, Nat.reduceLeDiff, Int.reduceToNat, Int.reduceNeg, Int.reduceLT, Int.reduceLE, Int.reduceEq, reduceCtorEq, Int.natCast_zero, Int.natCast_one, Int.cast_ofNat_Int, Bool.not_not, false_eq_decide, true_eq_decide, hread0, hreadk, read_cons0, read_consk, astore_h0, astore_hk, hget0, hgetk, hset0, hsetk, hlen, hcat, Nat.add_assoc, Nat.add_zero, Nat.zero_add, List.length_append, and_true, true_and, AV.flat, *, -hK] | with_reducible refine IfB_dec (fun h => ?_) (fun h => ?_) | with_reducible refine Guard_dec (fun h => ?_) (fun h => ?_) | with_reducible refine Guard_ndec (fun h => ?_) (fun h => ?_) | with_reducible refine Guard_not (fun h => ?_) (fun h => ?_) | with_reducible refine IfB_ndec (fun h => ?_) (fun h => ?_) | with_reducible refine IfB_not (fun h => ?_) (fun h => ?_) | with_reducible refine Guard_split (fun h => ?_) (fun h => ?_) | with_reducible refine IfB_split (fun h => ?_) (fun h => ?_))
    exact hK _ _ rfl
  have hls := hbb rfl
  clear hbb
  have e1 := hm.alen tk22
  repeat' (first | simp only [go_sem, Nat.reduceLT, Nat.reduceEqDiff, Nat.reduceAdd, Nat.reduceMul, Nat.reduceSub, Nat.reduceLeDiff, Int.reduceToNat, Int.reduceNeg, Int.reduceLT, Int.reduceLE, Int.reduceEq, reduceCtorEq, Int.natCast_zero, Int.natCast_one, Int.cast_ofNat_Int, Bool.not_not, false_eq_decide, true_eq_decide, hread0, hreadk, read_cons0, read_consk, astore_h0, astore_hk, hget0, hgetk, hset0, hsetk, hlen, hcat, Nat.add_assoc, Nat.add_zero, Nat.zero_add, List.length_append, and_true, true_and, AV.flat, *, -hK] | with_reducible refine IfB_dec (fun h => ?_) (fun h => ?_) | with_reducible refine Guard_dec (fun h => ?_) (fun h => ?_) | with_reducible refine Guard_ndec (fun h => ?_) (fun h => ?_) | with_reducible refine Guard_not (fun h => ?_) (fun h => ?_) | with_reducible refine IfB_ndec (fun h => ?_) (fun h => ?_) | with_reducible refine IfB_not (fun h => ?_) (fun h => ?_) | with_reducible refine Guard_split (fun h => ?_) (fun h => ?_) | with_reducible refine IfB_split (fun h => ?_) (fun h => ?_))
  case refine_1 => exact hK _ _ rfl
  refine (refTwin_spec a0 ls (by omega) hle _ hl).mono ?_
  rintro vo H1 ⟨oo, k1⟩
  simp only [go_sem, Nat.reduceLT, Nat.reduceEqDiff, Nat.reduceAdd, Nat.reduceMul, Nat.reduceSub, Nat.reduceLeDiff, Int.reduceToNat, Int.reduceNeg, Int.reduceLT, Int.reduceLE, Int.reduceEq, reduceCtorEq]
  refine copy_ob (hm.keep0 k1) se22 az5 td5 rfl tk22 (by omega) ?_
  intro vi HB oi k2
  simp only [go_sem, Nat.reduceLT, Nat.reduceEqDiff, Nat.reduceAdd, Nat.reduceMul, Nat.reduceSub, Nat.reduceLeDiff, Int.reduceToNat, Int.reduceNeg, Int.reduceLT, Int.reduceLE, Int.reduceEq, reduceCtorEq]
  have k12 := k1.trans k2
  have oo2 := OwnOf.keep0 oo k2
  refine (send_spec vo vi ls m hle (by omega) _ (Obs.sl oo2) oi.bs).mono ?_
  rintro r H3 ⟨⟨vp, rfl, op⟩, k3⟩
  simp only [go_sem, Nat.reduceLT, Nat.reduceEqDiff, Nat.reduceAdd, Nat.reduceMul, Nat.reduceSub, Nat.reduceLeDiff, Int.reduceToNat, Int.reduceNeg, Int.reduceLT, Int.reduceLE, Int.reduceEq, reduceCtorEq]
  refine (refSend_spec a0 a1 ls m hle (by omega) _ (hl.keep0 (k12.trans k3)) (hm.keep0 (k12.trans k3))).mono ?_
  rintro r H4 ⟨⟨vq, rfl, oq⟩, k4⟩
  simp only [go_sem, Nat.reduceLT, Nat.reduceEqDiff, Nat.reduceAdd, Nat.reduceMul, Nat.reduceSub, Nat.reduceLeDiff, Int.reduceToNat, Int.reduceNeg, Int.reduceLT, Int.reduceLE, Int.reduceEq, reduceCtorEq]
  have k24 := k3.trans k4
  refine (step_spec vo ls k at_ hle _ (Obs.sl (OwnOf.keep0 oo2 k24))).mono ?_
  rintro r H5 ⟨⟨vu, vx, rfl, ou, ox⟩, k5⟩
  simp only [go_sem, Nat.reduceLT, Nat.reduceEqDiff, Nat.reduceAdd, Nat.reduceMul, Nat.reduceSub, Nat.reduceLeDiff, Int.reduceToNat, Int.reduceNeg, Int.reduceLT, Int.reduceLE, Int.reduceEq, reduceCtorEq]
  have k25 := k24.trans k5
  refine (refStep_spec a0 ls k at_ hle _ (hl.keep0 (k12.trans k25))).mono ?_
  rintro r H6 ⟨⟨vv, vy, rfl, ov', oy⟩, k6⟩
  simp only [go_sem, Nat.reduceLT, Nat.reduceEqDiff, Nat.reduceAdd, Nat.reduceMul, Nat.reduceSub, Nat.reduceLeDiff, Int.reduceToNat, Int.reduceNeg, Int.reduceLT, Int.reduceLE, Int.reduceEq, reduceCtorEq]
  have k26 := k25.trans k6
  obtain ⟨p1, p2⟩ := sendL_len (m := m) hle (by omega)
  obtain ⟨q1, q2, q3⟩ := stepL_len (k := k) (a := at_) hle
  have op6 := OwnOf.keep0 op ((k4.trans k5).trans k6)
  have ou6 := OwnOf.keep0 ou k6
  have ox6 := ox.keep0 k6
  refine (refSame_spec vp vq _ _ (by omega) (by omega) _ (Obs.sl op6) (Obs.sl (OwnOf.keep0 oq (k5.trans k6)))).mono ?_
  rintro r H6 ⟨rfl, rfl⟩
  have e2 := ox6.bs.str se22 tk9 tk5
  have e3 := oy.bs.str se22 tk9 tk5
  have sm := refSame_spec vu vv _ _ (by omega) (by omega) _ (Obs.sl ou6) (Obs.sl ov')
  repeat' (first | simp only [go_sem, Nat.reduceLT, Nat.reduceEqDiff, Nat.reduceAdd, Nat.reduceMul, Nat.reduceSub, Nat.reduceLeDiff, Int.reduceToNat, Int.reduceNeg, Int.reduceLT, Int.reduceLE, Int.reduceEq, reduceCtorEq, Int.natCast_zero, Int.natCast_one, Int.cast_ofNat_Int, Bool.not_not, false_eq_decide, true_eq_decide, hread0, hreadk, read_cons0, read_consk, astore_h0, astore_hk, hget0, hgetk, hset0, hsetk, hlen, hcat, Nat.add_assoc, Nat.add_zero, Nat.zero_add, List.length_append, and_true, true_and, AV.flat, *, -hK, -sm, -q1, -q2, -q3, -p1, -p2] | refine WC.call (sm) ?_ | with_reducible refine IfB_dec (fun h => ?_) (fun h => ?_) | with_reducible refine Guard_dec (fun h => ?_) (fun h => ?_) | with_reducible refine Guard_ndec (fun h => ?_) (fun h => ?_) | with_reducible refine Guard_not (fun h => ?_) (fun h => ?_) | with_reducible refine IfB_ndec (fun h => ?_) (fun h => ?_) | with_reducible refine IfB_not (fun h => ?_) (fun h => ?_) | with_reducible refine Guard_split (fun h => ?_) (fun h => ?_) | with_reducible refine IfB_split (fun h => ?_) (fun h => ?_))
  rename_i H6
  -- written over
  have o26 := k26
  have hns1 : True := trivial
  have ge3 := k3.len
  have ge4 := k4.len
  have ge5 := k5.len
  have ge6 := k6.len
  obtain ⟨ns, hns⟩ : ∃ ns, ns = (sendL ls m).1.map List.length := ⟨_, rfl⟩
  have hns2 : ∀ n ∈ ns, n ≤ 140737488355328 := fun n hn => by
    rw [hns] at hn; obtain ⟨x, hx, rfl⟩ := List.mem_map.1 hn; exact p2 x hx
  have hnsl : ns.length ≤ 65 := by rw [hns, List.length_map]; exact p1
  obtain ⟨ms, hms⟩ : ∃ ms, ms = (stepL ls k at_).1.map List.length := ⟨_, rfl⟩
  have hms2 : ∀ n ∈ ms, n ≤ 140737488355328 := fun n hn => by
    rw [hms] at hn; obtain ⟨x, hx, rfl⟩ := List.mem_map.1 hn; exact q2 x hx
  have hmsl : ms.length ≤ 64 := by rw [hms, List.length_map]; exact q1
  obtain ⟨n, hn⟩ : ∃ n, n = (stepL ls k at_).2.1.length := ⟨_, rfl⟩
  have hnn : n ≤ 140737488355328 := hn ▸ q3
  have hwr : SlOf (Rp.wr HB.length) H6 vp ns := hns ▸ Obs.wr op6
  have hwu : SlOf (Rp.wr HB.length) H6 vu ms := hms ▸ SlOf.wr_mono (Obs.wr ou6) (by omega)
  have hwx : WrB HB.length H6 vx n := hn ▸ (WrB.of_ob ox6).mono (by omega)
  obtain ⟨EX, hEX⟩ : ∃ EX : Heap → Prop, EX = fun G => SlOf (Rp.wr HB.length) G vu ms ∧ WrB HB.length G vx n := ⟨_, rfl⟩
  have hex : EX H6 := by rw [hEX]; exact ⟨hwu, hwx⟩
  have ovE : ∀ {G G' b j}, Over HB.length G G' b j → EX G → EX G' := fun ov h => by rw [hEX] at h ⊢; exact ⟨SlOf.over h.1 ov, WrB.over h.2 ov⟩
  have hkk : Keep none HB H6 := k26
  clear hns hms hn op6 ou6 ox6 ox oy e2 e3 op oq ou ov' hwu hwx p1 p2 q1 q2 q3
  refine WX_loopS [0, 1, 9, 10, 11, 15, 16] (fun q fr' H' => ∃ i : Nat, q = ns.length - i ∧ i ≤ ns.length ∧ fr'.get 21 = .int .i64 i ∧ SlOf (Rp.wr HB.length) H' vp ns ∧ EX H' ∧ Keep none HB H') ns.length ⟨0, rfl, Nat.zero_le _, by simp only [go_sem, Nat.reduceLT, Nat.reduceEqDiff, Nat.reduceAdd, Nat.reduceMul, Nat.reduceSub, Nat.reduceLeDiff, Int.reduceToNat, Int.reduceNeg, Int.reduceLT, Int.reduceLE, Int.reduceEq, reduceCtorEq]; rfl, hwr, hex, hkk⟩ ?_
  clear hwr hex hkk
  rintro q fr' H7 A R hA hs hg hR ⟨i, rfl, hi, fi, hwr, hex, hkk⟩
  have s0 := hg 0 (by decide)
  have s1 := hg 1 (by decide)
  have s9 := hg 9 (by decide)
  have s10 := hg 10 (by decide)
  have s11 := hg 11 (by decide)
  have s15 := hg 15 (by decide)
  have s16 := hg 16 (by decide)
  simp only [Fr.get_put, Fr.get_init, List.getD_cons_zero, List.getD_cons_succ, Nat.reduceEqDiff, if_true, if_false] at s0 s1 s9 s10 s11 s15 s16
  have al := hwr.alen tk24
  refine wx_sound hT _ ?_
  by_cases hlt : i < ns.length
  · have hlti : (i : Int) < ns.length := by omega
    have hbl := hns2 _ (List.getElem_mem hlt)
    repeat' (first | simp only [go_sem, Nat.reduceLT, Nat.reduceEqDiff, Nat.reduceAdd, Nat.reduceMul, Nat.reduceSub, Nat.reduceLeDiff, Int.reduceToNat, Int.reduceNeg, Int.reduceLT, Int.reduceLE, Int.reduceEq, reduceCtorEq, Int.natCast_zero, Int.natCast_one, Int.cast_ofNat_Int, Bool.not_not, false_eq_decide, true_eq_decide, hread0, hreadk, read_cons0, read_consk, astore_h0, astore_hk, hget0, hgetk, hset0, hsetk, hlen, hcat, Nat.add_assoc, Nat.add_zero, Nat.zero_add, List.length_append, and_true, true_and, AV.flat, *, -hK, -hns1] | with_reducible refine IfB_dec (fun h => ?_) (fun h => ?_) | with_reducible refine Guard_dec (fun h => ?_) (fun h => ?_) | with_reducible refine Guard_ndec (fun h => ?_) (fun h => ?_) | with_reducible refine Guard_not (fun h => ?_) (fun h => ?_) | with_reducible refine IfB_ndec (fun h => ?_) (fun h => ?_) | with_reducible refine IfB_not (fun h => ?_) (fun h => ?_) | with_reducible refine Guard_split (fun h => ?_) (fun h => ?_) | with_reducible refine IfB_split (fun h => ?_) (fun h => ?_))
    have hA0 := hA
    have o10 := s11
    refine WX_loopS [11, 21] (fun q fr2 H2 => ∃ j : Nat, q = ns[i] - j ∧ j ≤ ns[i] ∧ fr2.get 22 = .int .i64 j ∧ SlOf (Rp.wr HB.length) H2 vp ns ∧ EX H2 ∧ Keep none HB H2 ∧ A fr2) ns[i] ⟨0, rfl, Nat.zero_le _, by simp only [go_sem, Nat.reduceLT, Nat.reduceEqDiff, Nat.reduceAdd, Nat.reduceMul, Nat.reduceSub, Nat.reduceLeDiff, Int.reduceToNat, Int.reduceNeg, Int.reduceLT, Int.reduceLE, Int.reduceEq, reduceCtorEq]; rfl, hwr, hex, hkk, by (repeat (first | exact hs | refine hA _ _ _ (by decide) ?_))⟩ ?_
    clear hg hs hA hwr hex hkk al
    rintro q fr2 H2 A2 R2 hA hs hg hR2 ⟨j, rfl, hj, fk, hwr, hex, hkk, hAf⟩
    have s11 := hg 11 (by decide)
    have s21 := hg 21 (by decide)
    simp only [Fr.get_put, Fr.get_init, List.getD_cons_zero, List.getD_cons_succ, Nat.reduceEqDiff, if_true, if_false] at s11 s21
    rw [o10] at s11
    rw [fi] at s21
    obtain ⟨b, o, c, e1, e2, ⟨w, rfl, hwb⟩, _⟩ := hwr.at_ se24 hlt (k := .i64) (z := i) rfl
    have e2r : H2.read b o 1 = some [w] := e2
    have al := hwb.alen tk22
    refine wx_sound hT _ ?_
    by_cases hlt2 : j < ns[i]
    · obtain ⟨b2, o2, x, e3, e4, e5, hst⟩ := hwb.at_ se22 (te := 5) (by simp [asize, td5]) hlt2 (k := .i64) (z := j) rfl
      obtain ⟨H3, s2, ov⟩ := hst (x + 1) _ rfl
      have hltj : (j : Int) < ns[i] := by omega
      have ui := u8_inc x
      have ji : IntKind.i64.wrap ((j : Int) + 1) = ((j + 1 : Nat) : Int) := by rw [IntKind.wrap_i64]; omega
      repeat' (first | simp only [go_sem, Nat.reduceLT, Nat.reduceEqDiff, Nat.reduceAdd, Nat.reduceMul, Nat.reduceSub, Nat.reduceLeDiff, Int.reduceToNat, Int.reduceNeg, Int.reduceLT, Int.reduceLE, Int.reduceEq, reduceCtorEq, Int.natCast_zero, Int.natCast_one, Int.cast_ofNat_Int, Bool.not_not, false_eq_decide, true_eq_decide, hread0, hreadk, read_cons0, read_consk, astore_h0, astore_hk, hget0, hgetk, hset0, hsetk, hlen, hcat, Nat.add_assoc, Nat.add_zero, Nat.zero_add, List.length_append, and_true, true_and, AV.flat, *, -hK, -hns1, -e5, -hst, -ov] | with_reducible refine IfB_dec (fun h => ?_) (fun h => ?_) | with_reducible refine Guard_dec (fun h => ?_) (fun h => ?_) | with_reducible refine Guard_ndec (fun h => ?_) (fun h => ?_) | with_reducible refine Guard_not (fun h => ?_) (fun h => ?_) | with_reducible refine IfB_ndec (fun h => ?_) (fun h => ?_) | with_reducible refine IfB_not (fun h => ?_) (fun h => ?_) | with_reducible refine Guard_split (fun h => ?_) (fun h => ?_) | with_reducible refine IfB_split (fun h => ?_) (fun h => ?_))
      refine WX_rows hT hmix [(0, none), (1, none), (2, none), (3, none), (4, none), (5, none), (6, none), (7, none), (8, none), (9, none), (10, none), (11, none), (12, none), (13, none), (14, some [true, true, true, true, true, true, true, true, true, true, true, true, true, true])] (by kernel_rfl) ?_
      repeat' (first | simp only [go_sem, Nat.reduceLT, Nat.reduceEqDiff, Nat.reduceAdd, Nat.reduceMul, Nat.reduceSub, Nat.reduceLeDiff, Int.reduceToNat, Int.reduceNeg, Int.reduceLT, Int.reduceLE, Int.reduceEq, reduceCtorEq, Int.natCast_zero, Int.natCast_one, Int.cast_ofNat_Int, Bool.not_not, false_eq_decide, true_eq_decide, hread0, hreadk, read_cons0, read_consk, astore_h0, astore_hk, hget0, hgetk, hset0, hsetk, hlen, hcat, Nat.add_assoc, Nat.add_zero, Nat.zero_add, List.length_append, and_true, true_and, AV.flat, *, -hK, -hns1, -e5, -hst, -ov] | with_reducible refine IfB_dec (fun h => ?_) (fun h => ?_) | with_reducible refine Guard_dec (fun h => ?_) (fun h => ?_) | with_reducible refine Guard_ndec (fun h => ?_) (fun h => ?_) | with_reducible refine Guard_not (fun h => ?_) (fun h => ?_) | with_reducible refine IfB_ndec (fun h => ?_) (fun h => ?_) | with_reducible refine IfB_not (fun h => ?_) (fun h => ?_) | with_reducible refine Guard_split (fun h => ?_) (fun h => ?_) | with_reducible refine IfB_split (fun h => ?_) (fun h => ?_))
      exact hR2 _ _ (by (repeat (first | exact hs | refine hA _ _ _ (by decide) ?_))) (ns[i] - (j + 1)) (by omega) ⟨j + 1, rfl, by omega, by simp only [go_sem, Nat.reduceLT, Nat.reduceEqDiff, Nat.reduceAdd, Nat.reduceMul, Nat.reduceSub, Nat.reduceLeDiff, Int.reduceToNat, Int.reduceNeg, Int.reduceLT, Int.reduceLE, Int.reduceEq, reduceCtorEq], hwr.over ov, ovE ov hex, hkk.over ov (Nat.le_refl _), by (repeat (first | exact hAf | refine hA0 _ _ _ (by decide) ?_))⟩
    · have hltj : ¬ (j : Int) < ns[i] := by omega
      have ii : IntKind.i64.wrap ((i : Int) + 1) = ((i + 1 : Nat) : Int) := by rw [IntKind.wrap_i64]; omega
      repeat' (first | simp only [go_sem, Nat.reduceLT, Nat.reduceEqDiff, Nat.reduceAdd, Nat.reduceMul, Nat.reduceSub, Nat.reduceLeDiff, Int.reduceToNat, Int.reduceNeg, Int.reduceLT, Int.reduceLE, Int.reduceEq, reduceCtorEq, Int.natCast_zero, Int.natCast_one, Int.cast_ofNat_Int, Bool.not_not, false_eq_decide, true_eq_decide, hread0, hreadk, read_cons0, read_consk, astore_h0, astore_hk, hget0, hgetk, hset0, hsetk, hlen, hcat, Nat.add_assoc, Nat.add_zero, Nat.zero_add, List.length_append, and_true, true_and, AV.flat, *, -hK, -hns1] | with_reducible refine IfB_dec (fun h => ?_) (fun h => ?_) | with_reducible refine Guard_dec (fun h => ?_) (fun h => ?_) | with_reducible refine Guard_ndec (fun h => ?_) (fun h => ?_) | with_reducible refine Guard_not (fun h => ?_) (fun h => ?_) | with_reducible refine IfB_ndec (fun h => ?_) (fun h => ?_) | with_reducible refine IfB_not (fun h => ?_) (fun h => ?_) | with_reducible refine Guard_split (fun h => ?_) (fun h => ?_) | with_reducible refine IfB_split (fun h => ?_) (fun h => ?_))
      exact hR _ _ (by (repeat (first | exact hAf | refine hA0 _ _ _ (by decide) ?_))) (ns.length - (i + 1)) (by omega) ⟨i + 1, rfl, by omega, by simp only [go_sem, Nat.reduceLT, Nat.reduceEqDiff, Nat.reduceAdd, Nat.reduceMul, Nat.reduceSub, Nat.reduceLeDiff, Int.reduceToNat, Int.reduceNeg, Int.reduceLT, Int.reduceLE, Int.reduceEq, reduceCtorEq], hwr, hex, hkk⟩
  have hlti : ¬ (i : Int) < ns.length := by omega
  repeat' (first | simp only [go_sem, Nat.reduceLT, Nat.reduceEqDiff, Nat.reduceAdd, Nat.reduceMul, Nat.reduceSub, Nat.reduceLeDiff, Int.reduceToNat, Int.reduceNeg, Int.reduceLT, Int.reduceLE, Int.reduceEq, reduceCtorEq, Int.natCast_zero, Int.natCast_one, Int.cast_ofNat_Int, Bool.not_not, false_eq_decide, true_eq_decide, hread0, hreadk, read_cons0, read_consk, astore_h0, astore_hk, hget0, hgetk, hset0, hsetk, hlen, hcat, Nat.add_assoc, Nat.add_zero, Nat.zero_add, List.length_append, and_true, true_and, AV.flat, *, -hK, -hns1] | with_reducible refine IfB_dec (fun h => ?_) (fun h => ?_) | with_reducible refine Guard_dec (fun h => ?_) (fun h => ?_) | with_reducible refine Guard_ndec (fun h => ?_) (fun h => ?_) | with_reducible refine Guard_not (fun h => ?_) (fun h => ?_) | with_reducible refine IfB_ndec (fun h => ?_) (fun h => ?_) | with_reducible refine IfB_not (fun h => ?_) (fun h => ?_) | with_reducible refine Guard_split (fun h => ?_) (fun h => ?_) | with_reducible refine IfB_split (fun h => ?_) (fun h => ?_))
  clear hlt hlti hns1 hns2 fi hwr hR hA hs hg al hi
  rw [hEX] at hex
  obtain ⟨hwr, hwx⟩ := hex
  clear hEX ovE EX
  obtain ⟨EX, hEX⟩ : ∃ EX : Heap → Prop, EX = fun G => WrB HB.length G vx n := ⟨_, rfl⟩
  have hex : EX H7 := by rw [hEX]; exact hwx
  have ovE : ∀ {G G' b j}, Over HB.length G G' b j → EX G → EX G' := fun ov h => by rw [hEX] at h ⊢; exact WrB.over h ov
  have hns1 : True := trivial
  obtain ⟨ns, rfl⟩ : ∃ ns, ns = ms := ⟨_, rfl⟩
  have hns2 := hms2
  clear hwx hms2
  refine WX_loopS [0, 1, 9, 10, 15, 16] (fun q fr' H' => ∃ i : Nat, q = ns.length - i ∧ i ≤ ns.length ∧ fr'.get 23 = .int .i64 i ∧ SlOf (Rp.wr HB.length) H' vu ns ∧ EX H' ∧ Keep none HB H') ns.length ⟨0, rfl, Nat.zero_le _, by simp only [go_sem, Nat.reduceLT, Nat.reduceEqDiff, Nat.reduceAdd, Nat.reduceMul, Nat.reduceSub, Nat.reduceLeDiff, Int.reduceToNat, Int.reduceNeg, Int.reduceLT, Int.reduceLE, Int.reduceEq, reduceCtorEq]; rfl, hwr, hex, hkk⟩ ?_
  clear hwr hex hkk
  rintro q fr' H8 A R hA hs hg hR ⟨i, rfl, hi, fi, hwr, hex, hkk⟩
  have s0 := hg 0 (by decide)
  have s1 := hg 1 (by decide)
  have s9 := hg 9 (by decide)
  have s10 := hg 10 (by decide)
  have s15 := hg 15 (by decide)
  have s16 := hg 16 (by decide)
  simp only [Fr.get_put, Fr.get_init, List.getD_cons_zero, List.getD_cons_succ, Nat.reduceEqDiff, if_true, if_false] at s0 s1 s9 s10 s15 s16
  have al := hwr.alen tk24
  refine wx_sound hT _ ?_
  by_cases hlt : i < ns.length
  · have hlti : (i : Int) < ns.length := by omega
    have hbl := hns2 _ (List.getElem_mem hlt)
    repeat' (first | simp only [go_sem, Nat.reduceLT, Nat.reduceEqDiff, Nat.reduceAdd, Nat.reduceMul, Nat.reduceSub, Nat.reduceLeDiff, Int.reduceToNat, Int.reduceNeg, Int.reduceLT, Int.reduceLE, Int.reduceEq, reduceCtorEq, Int.natCast_zero, Int.natCast_one, Int.cast_ofNat_Int, Bool.not_not, false_eq_decide, true_eq_decide, hread0, hreadk, read_cons0, read_consk, astore_h0, astore_hk, hget0, hgetk, hset0, hsetk, hlen, hcat, Nat.add_assoc, Nat.add_zero, Nat.zero_add, List.length_append, and_true, true_and, AV.flat, *, -hK, -hns1] | with_reducible refine IfB_dec (fun h => ?_) (fun h => ?_) | with_reducible refine Guard_dec (fun h => ?_) (fun h => ?_) | with_reducible refine Guard_ndec (fun h => ?_) (fun h => ?_) | with_reducible refine Guard_not (fun h => ?_) (fun h => ?_) | with_reducible refine IfB_ndec (fun h => ?_) (fun h => ?_) | with_reducible refine IfB_not (fun h => ?_) (fun h => ?_) | with_reducible refine Guard_split (fun h => ?_) (fun h => ?_) | with_reducible refine IfB_split (fun h => ?_) (fun h => ?_))
    have hA0 := hA
    have o10 := s15
    refine WX_loopS [15, 23] (fun q fr2 H2 => ∃ j : Nat, q = ns[i] - j ∧ j ≤ ns[i] ∧ fr2.get 24 = .int .i64 j ∧ SlOf (Rp.wr HB.length) H2 vu ns ∧ EX H2 ∧ Keep none HB H2 ∧ A fr2) ns[i] ⟨0, rfl, Nat.zero_le _, by simp only [go_sem, Nat.reduceLT, Nat.reduceEqDiff, Nat.reduceAdd, Nat.reduceMul, Nat.reduceSub, Nat.reduceLeDiff, Int.reduceToNat, Int.reduceNeg, Int.reduceLT, Int.reduceLE, Int.reduceEq, reduceCtorEq]; rfl, hwr, hex, hkk, by (repeat (first | exact hs | refine hA _ _ _ (by decide) ?_))⟩ ?_
    clear hg hs hA hwr hex hkk al
    rintro q fr2 H2 A2 R2 hA hs hg hR2 ⟨j, rfl, hj, fk, hwr, hex, hkk, hAf⟩
    have s15 := hg 15 (by decide)
    have s23 := hg 23 (by decide)
    simp only [Fr.get_put, Fr.get_init, List.getD_cons_zero, List.getD_cons_succ, Nat.reduceEqDiff, if_true, if_false] at s15 s23
    rw [o10] at s15
    rw [fi] at s23
    obtain ⟨b, o, c, e1, e2, ⟨w, rfl, hwb⟩, _⟩ := hwr.at_ se24 hlt (k := .i64) (z := i) rfl
    have e2r : H2.read b o 1 = some [w] := e2
    have al := hwb.alen tk22
    refine wx_sound hT _ ?_
    by_cases hlt2 : j < ns[i]
    · obtain ⟨b2, o2, x, e3, e4, e5, hst⟩ := hwb.at_ se22 (te := 5) (by simp [asize, td5]) hlt2 (k := .i64) (z := j) rfl
      obtain ⟨H3, s2, ov⟩ := hst (x + 1) _ rfl
      have hltj : (j : Int) < ns[i] := by omega
      have ui := u8_inc x
      have ji : IntKind.i64.wrap ((j : Int) + 1) = ((j + 1 : Nat) : Int) := by rw [IntKind.wrap_i64]; omega
      repeat' (first | simp only [go_sem, Nat.reduceLT, Nat.reduceEqDiff, Nat.reduceAdd, Nat.reduceMul, Nat.reduceSub, Nat.reduceLeDiff, Int.reduceToNat, Int.reduceNeg, Int.reduceLT, Int.reduceLE, Int.reduceEq, reduceCtorEq, Int.natCast_zero, Int.natCast_one, Int.cast_ofNat_Int, Bool.not_not, false_eq_decide, true_eq_decide, hread0, hreadk, read_cons0, read_consk, astore_h0, astore_hk, hget0, hgetk, hset0, hsetk, hlen, hcat, Nat.add_assoc, Nat.add_zero, Nat.zero_add, List.length_append, and_true, true_and, AV.flat, *, -hK, -hns1, -e5, -hst, -ov] | with_reducible refine IfB_dec (fun h => ?_) (fun h => ?_) | with_reducible refine Guard_dec (fun h => ?_) (fun h => ?_) | with_reducible refine Guard_ndec (fun h => ?_) (fun h => ?_) | with_reducible refine Guard_not (fun h => ?_) (fun h => ?_) | with_reducible refine IfB_ndec (fun h => ?_) (fun h => ?_) | with_reducible refine IfB_not (fun h => ?_) (fun h => ?_) | with_reducible refine Guard_split (fun h => ?_) (fun h => ?_) | with_reducible refine IfB_split (fun h => ?_) (fun h => ?_))
      refine WX_rows hT hmix [(0, none), (1, none), (2, none), (3, none), (4, none), (5, none), (6, none), (7, none), (8, none), (9, none), (10, none), (11, none), (12, none), (13, none), (14, some [true, true, true, true, true, true, true, true, true, true, true, true, true, true])] (by kernel_rfl) ?_
      repeat' (first | simp only [go_sem, Nat.reduceLT, Nat.reduceEqDiff, Nat.reduceAdd, Nat.reduceMul, Nat.reduceSub, Nat.reduceLeDiff, Int.reduceToNat, Int.reduceNeg, Int.reduceLT, Int.reduceLE, Int.reduceEq, reduceCtorEq, Int.natCast_zero, Int.natCast_one, Int.cast_ofNat_Int, Bool.not_not, false_eq_decide, true_eq_decide, hread0, hreadk, read_cons0, read_consk, astore_h0, astore_hk, hget0, hgetk, hset0, hsetk, hlen, hcat, Nat.add_assoc, Nat.add_zero, Nat.zero_add, List.length_append, and_true, true_and, AV.flat, *, -hK, -hns1, -e5, -hst, -ov] | with_reducible refine IfB_dec (fun h => ?_) (fun h => ?_) | with_reducible refine Guard_dec (fun h => ?_) (fun h => ?_) | with_reducible refine Guard_ndec (fun h => ?_) (fun h => ?_) | with_reducible refine Guard_not (fun h => ?_) (fun h => ?_) | with_reducible refine IfB_ndec (fun h => ?_) (fun h => ?_) | with_reducible refine IfB_not (fun h => ?_) (fun h => ?_) | with_reducible refine Guard_split (fun h => ?_) (fun h => ?_) | with_reducible refine IfB_split (fun h => ?_) (fun h => ?_))
      exact hR2 _ _ (by (repeat (first | exact hs | refine hA _ _ _ (by decide) ?_))) (ns[i] - (j + 1)) (by omega) ⟨j + 1, rfl, by omega, by simp only [go_sem, Nat.reduceLT, Nat.reduceEqDiff, Nat.reduceAdd, Nat.reduceMul, Nat.reduceSub, Nat.reduceLeDiff, Int.reduceToNat, Int.reduceNeg, Int.reduceLT, Int.reduceLE, Int.reduceEq, reduceCtorEq], hwr.over ov, ovE ov hex, hkk.over ov (Nat.le_refl _), by (repeat (first | exact hAf | refine hA0 _ _ _ (by decide) ?_))⟩
    · have hltj : ¬ (j : Int) < ns[i] := by omega
      have ii : IntKind.i64.wrap ((i : Int) + 1) = ((i + 1 : Nat) : Int) := by rw [IntKind.wrap_i64]; omega
      repeat' (first | simp only [go_sem, Nat.reduceLT, Nat.reduceEqDiff, Nat.reduceAdd, Nat.reduceMul, Nat.reduceSub, Nat.reduceLeDiff, Int.reduceToNat, Int.reduceNeg, Int.reduceLT, Int.reduceLE, Int.reduceEq, reduceCtorEq, Int.natCast_zero, Int.natCast_one, Int.cast_ofNat_Int, Bool.not_not, false_eq_decide, true_eq_decide, hread0, hreadk, read_cons0, read_consk, astore_h0, astore_hk, hget0, hgetk, hset0, hsetk, hlen, hcat, Nat.add_assoc, Nat.add_zero, Nat.zero_add, List.length_append, and_true, true_and, AV.flat, *, -hK, -hns1] | with_reducible refine IfB_dec (fun h => ?_) (fun h => ?_) | with_reducible refine Guard_dec (fun h => ?_) (fun h => ?_) | with_reducible refine Guard_ndec (fun h => ?_) (fun h => ?_) | with_reducible refine Guard_not (fun h => ?_) (fun h => ?_) | with_reducible refine IfB_ndec (fun h => ?_) (fun h => ?_) | with_reducible refine IfB_not (fun h => ?_) (fun h => ?_) | with_reducible refine Guard_split (fun h => ?_) (fun h => ?_) | with_reducible refine IfB_split (fun h => ?_) (fun h => ?_))
      exact hR _ _ (by (repeat (first | exact hAf | refine hA0 _ _ _ (by decide) ?_))) (ns.length - (i + 1)) (by omega) ⟨i + 1, rfl, by omega, by simp only [go_sem, Nat.reduceLT, Nat.reduceEqDiff, Nat.reduceAdd, Nat.reduceMul, Nat.reduceSub, Nat.reduceLeDiff, Int.reduceToNat, Int.reduceNeg, Int.reduceLT, Int.reduceLE, Int.reduceEq, reduceCtorEq], hwr, hex, hkk⟩
  have hlti : ¬ (i : Int) < ns.length := by omega
  repeat' (first | simp only [go_sem, Nat.reduceLT, Nat.reduceEqDiff, Nat.reduceAdd, Nat.reduceMul, Nat.reduceSub, Nat.reduceLeDiff, Int.reduceToNat, Int.reduceNeg, Int.reduceLT, Int.reduceLE, Int.reduceEq, reduceCtorEq, Int.natCast_zero, Int.natCast_one, Int.cast_ofNat_Int, Bool.not_not, false_eq_decide, true_eq_decide, hread0, hreadk, read_cons0, read_consk, astore_h0, astore_hk, hget0, hgetk, hset0, hsetk, hlen, hcat, Nat.add_assoc, Nat.add_zero, Nat.zero_add, List.length_append, and_true, true_and, AV.flat, *, -hK, -hns1] | with_reducible refine IfB_dec (fun h => ?_) (fun h => ?_) | with_reducible refine Guard_dec (fun h => ?_) (fun h => ?_) | with_reducible refine Guard_ndec (fun h => ?_) (fun h => ?_) | with_reducible refine Guard_not (fun h => ?_) (fun h => ?_) | with_reducible refine IfB_ndec (fun h => ?_) (fun h => ?_) | with_reducible refine IfB_not (fun h => ?_) (fun h => ?_) | with_reducible refine Guard_split (fun h => ?_) (fun h => ?_) | with_reducible refine IfB_split (fun h => ?_) (fun h => ?_))
  clear hlt hlti hns1 hns2 fi hwr hR hA hs hg al hi
  rw [hEX] at hex
  clear hEX ovE
  have hwb := hex
  clear hex
  refine WX_loopS [0, 1, 9, 10, 16] (fun q fr' H' => ∃ j : Nat, q = n - j ∧ j ≤ n ∧ fr'.get 25 = .int .i64 j ∧ WrB HB.length H' vx n ∧ Keep none HB H') n ⟨0, rfl, Nat.zero_le _, by simp only [go_sem, Nat.reduceLT, Nat.reduceEqDiff, Nat.reduceAdd, Nat.reduceMul, Nat.reduceSub, Nat.reduceLeDiff, Int.reduceToNat, Int.reduceNeg, Int.reduceLT, Int.reduceLE, Int.reduceEq, reduceCtorEq]; rfl, hwb, hkk⟩ ?_
  clear hwb hkk
  rintro q fr' H9 A R hA hs hg hR ⟨j, rfl, hj, fk, hwb, hkk⟩
  have s0 := hg 0 (by decide)
  have s1 := hg 1 (by decide)
  have s9 := hg 9 (by decide)
  have s10 := hg 10 (by decide)
  have s16 := hg 16 (by decide)
  simp only [Fr.get_put, Fr.get_init, List.getD_cons_zero, List.getD_cons_succ, Nat.reduceEqDiff, if_true, if_false] at s0 s1 s9 s10 s16
  have al := hwb.alen tk22
  refine wx_sound hT _ ?_
  by_cases hlt2 : j < n
  · obtain ⟨b2, o2, x, e3, e4, e5, hst⟩ := hwb.at_ se22 (te := 5) (by simp [asize, td5]) hlt2 (k := .i64) (z := j) rfl
    obtain ⟨H3, s2, ov⟩ := hst (x + 1) _ rfl
    have hltj : (j : Int) < n := by omega
    have ui := u8_inc x
    have ji : IntKind.i64.wrap ((j : Int) + 1) = ((j + 1 : Nat) : Int) := by rw [IntKind.wrap_i64]; omega
    repeat' (first | simp only [go_sem, Nat.reduceLT, Nat.reduceEqDiff, Nat.reduceAdd, Nat.reduceMul, Nat.reduceSub, Nat.reduceLeDiff, Int.reduceToNat, Int.reduceNeg, Int.reduceLT, Int.reduceLE, Int.reduceEq, reduceCtorEq, Int.natCast_zero, Int.natCast_one, Int.cast_ofNat_Int, Bool.not_not, false_eq_decide, true_eq_decide, hread0, hreadk, read_cons0, read_consk, astore_h0, astore_hk, hget0, hgetk, hset0, hsetk, hlen, hcat, Nat.add_assoc, Nat.add_zero, Nat.zero_add, List.length_append, and_true, true_and, AV.flat, *, -hK, -e5, -hst, -ov] | with_reducible refine IfB_dec (fun h => ?_) (fun h => ?_) | with_reducible refine Guard_dec (fun h => ?_) (fun h => ?_) | with_reducible refine Guard_ndec (fun h => ?_) (fun h => ?_) | with_reducible refine Guard_not (fun h => ?_) (fun h => ?_) | with_reducible refine IfB_ndec (fun h => ?_) (fun h => ?_) | with_reducible refine IfB_not (fun h => ?_) (fun h => ?_) | with_reducible refine Guard_split (fun h => ?_) (fun h => ?_) | with_reducible refine IfB_split (fun h => ?_) (fun h => ?_))
    exact hR _ _ (by (repeat (first | exact hs | refine hA _ _ _ (by decide) ?_))) (n - (j + 1)) (by omega) ⟨j + 1, rfl, by omega, by simp only [go_sem, Nat.reduceLT, Nat.reduceEqDiff, Nat.reduceAdd, Nat.reduceMul, Nat.reduceSub, Nat.reduceLeDiff, Int.reduceToNat, Int.reduceNeg, Int.reduceLT, Int.reduceLE, Int.reduceEq, reduceCtorEq], hwb.over ov, hkk.over ov (Nat.le_refl _)⟩
  have hltj : ¬ (j : Int) < n := by omega
  repeat' (first | simp only [go_sem, Nat.reduceLT, Nat.reduceEqDiff, Nat.reduceAdd, Nat.reduceMul, Nat.reduceSub, Nat.reduceLeDiff, Int.reduceToNat, Int.reduceNeg, Int.reduceLT, Int.reduceLE, Int.reduceEq, reduceCtorEq, Int.natCast_zero, Int.natCast_one, Int.cast_ofNat_Int, Bool.not_not, false_eq_decide, true_eq_decide, hread0, hreadk, read_cons0, read_consk, astore_h0, astore_hk, hget0, hgetk, hset0, hsetk, hlen, hcat, Nat.add_assoc, Nat.add_zero, Nat.zero_add, List.length_append, and_true, true_and, AV.flat, *, -hK] | with_reducible refine IfB_dec (fun h => ?_) (fun h => ?_) | with_reducible refine Guard_dec (fun h => ?_) (fun h => ?_) | with_reducible refine Guard_ndec (fun h => ?_) (fun h => ?_) | with_reducible refine Guard_not (fun h => ?_) (fun h => ?_) | with_reducible refine IfB_ndec (fun h => ?_) (fun h => ?_) | with_reducible refine IfB_not (fun h => ?_) (fun h => ?_) | with_reducible refine Guard_split (fun h => ?_) (fun h => ?_) | with_reducible refine IfB_split (fun h => ?_) (fun h => ?_))
  clear fk hwb hlt2 hltj hj hR hA hs hg al
  have e1 := (oi.keep0 hkk).bs.str se22 tk9 tk5
  have e2 := (hm.keep0 (k12.trans hkk)).str se22 tk9 tk5
  have sm := refSame_spec vo a0 _ _ (by omega) (by omega) _ (Obs.sl (OwnOf.keep0 oo2 hkk)) (hl.keep0 (k12.trans hkk))
  repeat' (first | simp only [go_sem, Nat.reduceLT, Nat.reduceEqDiff, Nat.reduceAdd, Nat.reduceMul, Nat.reduceSub, Nat.reduceLeDiff, Int.reduceToNat, Int.reduceNeg, Int.reduceLT, Int.reduceLE, Int.reduceEq, reduceCtorEq, Int.natCast_zero, Int.natCast_one, Int.cast_ofNat_Int, Bool.not_not, false_eq_decide, true_eq_decide, hread0, hreadk, read_cons0, read_consk, astore_h0, astore_hk, hget0, hgetk, hset0, hsetk, hlen, hcat, Nat.add_assoc, Nat.add_zero, Nat.zero_add, List.length_append, and_true, true_and, AV.flat, *, -hK] | refine WC.call (sm) ?_ | with_reducible refine IfB_dec (fun h => ?_) (fun h => ?_) | with_reducible refine Guard_dec (fun h => ?_) (fun h => ?_) | with_reducible refine Guard_ndec (fun h => ?_) (fun h => ?_) | with_reducible refine Guard_not (fun h => ?_) (fun h => ?_) | with_reducible refine IfB_ndec (fun h => ?_) (fun h => ?_) | with_reducible refine IfB_not (fun h => ?_) (fun h => ?_) | with_reducible refine Guard_split (fun h => ?_) (fun h => ?_) | with_reducible refine IfB_split (fun h => ?_) (fun h => ?_))
  exact hK _ _ rfl
end Go.Proofs.Ytphenbpognaddaa
