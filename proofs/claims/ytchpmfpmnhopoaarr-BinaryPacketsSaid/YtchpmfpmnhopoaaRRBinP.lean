import Derived.Test.YtchpmfpmnhopoaaRRBinB
set_option linter.unusedSimpArgs false
set_option linter.unusedVariables false
set_option maxRecDepth 100000
set_option maxHeartbeats 4000000
namespace Go.Proofs.YtchpmfpmnhopoaaRR
open Go Go.Proofs Go.Proofs.PI
theorem cutB_len (m : UInt8) (l : List UInt8) : (cutB m l).body.length ≤ l.length := by
  unfold cutB
  repeat' split
  all_goals first | (simp; done) | (simp; omega)
theorem packetE_len (a b : UInt8) (l : List UInt8) : (packetE a b l).1.length ≤ 4102 := by
  unfold packetE packetL
  split
  · simp
  · simp; omega
theorem u8_of {v : Int} (h : (Lit.int .u8 v).wf = true) : ∃ x : UInt8, v = x.toNat := by
  have h : 0 ≤ v ∧ v < 256 := by
    have h : IntKind.u8.min ≤ v ∧ v ≤ IntKind.u8.max := by simpa [Lit.wf] using h
    have h1 : IntKind.u8.min = 0 := by decide
    have h2 : IntKind.u8.max = 255 := by decide
    omega
  refine ⟨UInt8.ofNat v.toNat, ?_⟩
  rw [UInt8.toNat_ofNat']; omega
theorem binaryPackets_walk (H : Heap) (avs : List AV) (h : InpAll T H 9 [5, 5, 22] avs) : WC Try.prog 3 avs H fun v _ => v = .bool true := by
  obtain ⟨a0, _, rfl, h0, h⟩ := h.cons
  obtain ⟨a1, _, rfl, h1, h⟩ := h.cons
  obtain ⟨a2, _, rfl, h2, h⟩ := h.cons
  obtain rfl := h.nil
  obtain ⟨k, rfl, hk⟩ := Inp.int tk5 h0
  obtain ⟨k', rfl, hk'⟩ := Inp.int tk5 h1
  obtain ⟨m, hm, hml⟩ := Inp.bytes tk22 tk5 (by simp [asize, td5]) h2
  clear h0 h1 h2
  obtain ⟨a, rfl⟩ := u8_of hk
  obtain ⟨b, rfl⟩ := u8_of hk'
  clear hk hk'
  refine WC_of_K fun K hK => ?_
  have al := hm.alen tk22
  by_cases hlen : m.length ≤ 6000 ∨ 16384 < m.length ∧ m.length ≤ 17000
  rotate_left
  · skip
    refine WC_of_body hT Try.func3 rfl (by simp [Try.f3]) (by simp [Try.f3]) (wx_sound hT _ ?_)
    simp only [Try.f3]
    clear hml
    by_cases i1 : (m.length : Int) > 17000
    · have i2 : ¬ (m.length : Int) ≤ 16384 := by omega
      have i3 : (m.length : Int) > 6000 := by omega
      repeat' (first | simp only [go_sem, Nat.reduceLT, Nat.reduceEqDiff, Nat.reduceAdd, Nat.reduceMul, Nat.reduceSub, Nat.reduceLeDiff, Int.reduceToNat, Int.reduceNeg, Int.reduceLT, Int.reduceLE, Int.reduceEq, reduceCtorEq, Int.natCast_zero, Int.natCast_one, Int.cast_ofNat_Int, Bool.not_not, false_eq_decide, true_eq_decide, hread0, hreadk, read_cons0, read_consk, astore_h0, astore_hk, hget0, hgetk, hset0, hsetk, hlen, hcat, Nat.add_assoc, Nat.add_zero, Nat.zero_add, List.length_append, and_true, true_and, AV.flat, *, -hK, -hlen] | with_reducible refine IfB_dec (fun h => ?_) (fun h => ?_) | with_reducible refine Guard_dec (fun h => ?_) (fun h => ?_) | with_reducible refine Guard_ndec (fun h => ?_) (fun h => ?_) | with_reducible refine Guard_not (fun h => ?_) (fun h => ?_) | with_reducible refine IfB_ndec (fun h => ?_) (fun h => ?_) | with_reducible refine IfB_not (fun h => ?_) (fun h => ?_) | with_reducible refine Guard_split (fun h => ?_) (fun h => ?_) | with_reducible refine IfB_split (fun h => ?_) (fun h => ?_))
      exact hK _ _ rfl
    · have i2 : (m.length : Int) ≤ 16384 := by omega
      have i3 : (m.length : Int) > 6000 := by omega
      repeat' (first | simp only [go_sem, Nat.reduceLT, Nat.reduceEqDiff, Nat.reduceAdd, Nat.reduceMul, Nat.reduceSub, Nat.reduceLeDiff, Int.reduceToNat, Int.reduceNeg, Int.reduceLT, Int.reduceLE, Int.reduceEq, reduceCtorEq, Int.natCast_zero, Int.natCast_one, Int.cast_ofNat_Int, Bool.not_not, false_eq_decide, true_eq_decide, hread0, hreadk, read_cons0, read_consk, astore_h0, astore_hk, hget0, hgetk, hset0, hsetk, hlen, hcat, Nat.add_assoc, Nat.add_zero, Nat.zero_add, List.length_append, and_true, true_and, AV.flat, *, -hK, -hlen] | with_reducible refine IfB_dec (fun h => ?_) (fun h => ?_) | with_reducible refine Guard_dec (fun h => ?_) (fun h => ?_) | with_reducible refine Guard_ndec (fun h => ?_) (fun h => ?_) | with_reducible refine Guard_not (fun h => ?_) (fun h => ?_) | with_reducible refine IfB_ndec (fun h => ?_) (fun h => ?_) | with_reducible refine IfB_not (fun h => ?_) (fun h => ?_) | with_reducible refine Guard_split (fun h => ?_) (fun h => ?_) | with_reducible refine IfB_split (fun h => ?_) (fun h => ?_))
      exact hK _ _ rfl
  have i1 : ¬ (m.length : Int) > 17000 := by omega
  have hml : m.length ≤ 140737488355328 := by omega
  refine WC_of_body hT Try.func3 rfl (by simp [Try.f3]) (by simp [Try.f3]) (wx_sound hT _ ?_)
  simp only [Try.f3]
  by_cases i3 : (m.length : Int) > 6000
  · have i2 : ¬ (m.length : Int) ≤ 16384 := by omega
    repeat' (first | simp only [go_sem, Nat.reduceLT, Nat.reduceEqDiff, Nat.reduceAdd, Nat.reduceMul, Nat.reduceSub, Nat.reduceLeDiff, Int.reduceToNat, Int.reduceNeg, Int.reduceLT, Int.reduceLE, Int.reduceEq, reduceCtorEq, Int.natCast_zero, Int.natCast_one, Int.cast_ofNat_Int, Bool.not_not, false_eq_decide, true_eq_decide, hread0, hreadk, read_cons0, read_consk, astore_h0, astore_hk, hget0, hgetk, hset0, hsetk, hlen, hcat, Nat.add_assoc, Nat.add_zero, Nat.zero_add, List.length_append, and_true, true_and, AV.flat, *, -hK, -hlen] | with_reducible refine IfB_dec (fun h => ?_) (fun h => ?_) | with_reducible refine Guard_dec (fun h => ?_) (fun h => ?_) | with_reducible refine Guard_ndec (fun h => ?_) (fun h => ?_) | with_reducible refine Guard_not (fun h => ?_) (fun h => ?_) | with_reducible refine IfB_ndec (fun h => ?_) (fun h => ?_) | with_reducible refine IfB_not (fun h => ?_) (fun h => ?_) | with_reducible refine Guard_split (fun h => ?_) (fun h => ?_) | with_reducible refine IfB_split (fun h => ?_) (fun h => ?_))
    refine copy_ob hm se22 az5 td5 rfl tk22 (by omega) ?_
    intro vi HB oi k1
    repeat' (first | simp only [go_sem, Nat.reduceLT, Nat.reduceEqDiff, Nat.reduceAdd, Nat.reduceMul, Nat.reduceSub, Nat.reduceLeDiff, Int.reduceToNat, Int.reduceNeg, Int.reduceLT, Int.reduceLE, Int.reduceEq, reduceCtorEq, Int.natCast_zero, Int.natCast_one, Int.cast_ofNat_Int, Bool.not_not, false_eq_decide, true_eq_decide, hread0, hreadk, read_cons0, read_consk, astore_h0, astore_hk, hget0, hgetk, hset0, hsetk, hlen, hcat, Nat.add_assoc, Nat.add_zero, Nat.zero_add, List.length_append, and_true, true_and, AV.flat, *, -hK, -hlen, -oi] | with_reducible refine IfB_dec (fun h => ?_) (fun h => ?_) | with_reducible refine Guard_dec (fun h => ?_) (fun h => ?_) | with_reducible refine Guard_ndec (fun h => ?_) (fun h => ?_) | with_reducible refine Guard_not (fun h => ?_) (fun h => ?_) | with_reducible refine IfB_ndec (fun h => ?_) (fun h => ?_) | with_reducible refine IfB_not (fun h => ?_) (fun h => ?_) | with_reducible refine Guard_split (fun h => ?_) (fun h => ?_) | with_reducible refine IfB_split (fun h => ?_) (fun h => ?_))
    refine (Packet_spec a b vi m hml _ oi.bs).mono ?_
    rintro r H3 ⟨⟨vp, rfl, op⟩, k3⟩
    repeat' (first | simp only [go_sem, Nat.reduceLT, Nat.reduceEqDiff, Nat.reduceAdd, Nat.reduceMul, Nat.reduceSub, Nat.reduceLeDiff, Int.reduceToNat, Int.reduceNeg, Int.reduceLT, Int.reduceLE, Int.reduceEq, reduceCtorEq, Int.natCast_zero, Int.natCast_one, Int.cast_ofNat_Int, Bool.not_not, false_eq_decide, true_eq_decide, hread0, hreadk, read_cons0, read_consk, astore_h0, astore_hk, hget0, hgetk, hset0, hsetk, hlen, hcat, Nat.add_assoc, Nat.add_zero, Nat.zero_add, List.length_append, and_true, true_and, AV.flat, *, -hK, -hlen, -oi, -op] | with_reducible refine IfB_dec (fun h => ?_) (fun h => ?_) | with_reducible refine Guard_dec (fun h => ?_) (fun h => ?_) | with_reducible refine Guard_ndec (fun h => ?_) (fun h => ?_) | with_reducible refine Guard_not (fun h => ?_) (fun h => ?_) | with_reducible refine IfB_ndec (fun h => ?_) (fun h => ?_) | with_reducible refine IfB_not (fun h => ?_) (fun h => ?_) | with_reducible refine Guard_split (fun h => ?_) (fun h => ?_) | with_reducible refine IfB_split (fun h => ?_) (fun h => ?_))
    refine (refPacket_spec a b a2 m hml _ (hm.keep0 (k1.trans k3))).mono ?_
    rintro r H4 ⟨⟨vq, rfl, oq⟩, k4⟩
    repeat' (first | simp only [go_sem, Nat.reduceLT, Nat.reduceEqDiff, Nat.reduceAdd, Nat.reduceMul, Nat.reduceSub, Nat.reduceLeDiff, Int.reduceToNat, Int.reduceNeg, Int.reduceLT, Int.reduceLE, Int.reduceEq, reduceCtorEq, Int.natCast_zero, Int.natCast_one, Int.cast_ofNat_Int, Bool.not_not, false_eq_decide, true_eq_decide, hread0, hreadk, read_cons0, read_consk, astore_h0, astore_hk, hget0, hgetk, hset0, hsetk, hlen, hcat, Nat.add_assoc, Nat.add_zero, Nat.zero_add, List.length_append, and_true, true_and, AV.flat, *, -hK, -hlen, -oi, -op, -oq] | with_reducible refine IfB_dec (fun h => ?_) (fun h => ?_) | with_reducible refine Guard_dec (fun h => ?_) (fun h => ?_) | with_reducible refine Guard_ndec (fun h => ?_) (fun h => ?_) | with_reducible refine Guard_not (fun h => ?_) (fun h => ?_) | with_reducible refine IfB_ndec (fun h => ?_) (fun h => ?_) | with_reducible refine IfB_not (fun h => ?_) (fun h => ?_) | with_reducible refine Guard_split (fun h => ?_) (fun h => ?_) | with_reducible refine IfB_split (fun h => ?_) (fun h => ?_))
    refine (Cut_spec a vi m _ ((oi.keep0 (k3.trans k4)).bs)).mono ?_
    rintro r H5 ⟨⟨vx, rfl, ox⟩, k5⟩
    repeat' (first | simp only [go_sem, Nat.reduceLT, Nat.reduceEqDiff, Nat.reduceAdd, Nat.reduceMul, Nat.reduceSub, Nat.reduceLeDiff, Int.reduceToNat, Int.reduceNeg, Int.reduceLT, Int.reduceLE, Int.reduceEq, reduceCtorEq, Int.natCast_zero, Int.natCast_one, Int.cast_ofNat_Int, Bool.not_not, false_eq_decide, true_eq_decide, hread0, hreadk, read_cons0, read_consk, astore_h0, astore_hk, hget0, hgetk, hset0, hsetk, hlen, hcat, Nat.add_assoc, Nat.add_zero, Nat.zero_add, List.length_append, and_true, true_and, AV.flat, *, -hK, -hlen, -oi, -op, -oq, -ox] | with_reducible refine IfB_dec (fun h => ?_) (fun h => ?_) | with_reducible refine Guard_dec (fun h => ?_) (fun h => ?_) | with_reducible refine Guard_ndec (fun h => ?_) (fun h => ?_) | with_reducible refine Guard_not (fun h => ?_) (fun h => ?_) | with_reducible refine IfB_ndec (fun h => ?_) (fun h => ?_) | with_reducible refine IfB_not (fun h => ?_) (fun h => ?_) | with_reducible refine Guard_split (fun h => ?_) (fun h => ?_) | with_reducible refine IfB_split (fun h => ?_) (fun h => ?_))
    refine (refCut_spec a a2 m _ (hm.keep0 ((k1.trans k3).trans (k4.trans k5)))).mono ?_
    rintro r H6 ⟨⟨vy, rfl, oy⟩, k6⟩
    have k46 := (k4.trans k5).trans k6
    have e1 := (op.keep0 k46).bs.str se22 tk9 tk5
    have e2 := (oq.keep0 (k5.trans k6)).bs.str se22 tk9 tk5
    have e3 := (ox.keep0 k6).bs.str se22 tk9 tk5
    have e4 := oy.bs.str se22 tk9 tk5
    have cl := cutB_len a m
    have pl := packetE_len a b m
    have ge3 := k3.len
    have ge4 := k4.len
    have ge5 := k5.len
    have ge6 := k6.len
    have hwb := (WrB.of_ob (ox.keep0 k6)).mono (m' := HB.length) (by omega)
    have hwp := (WrB.of_ob (op.keep0 k46)).mono (m' := HB.length) (by omega)
    have hkk : Keep none HB H6 := k3.trans k46
    generalize cutB a m = cb at *
    generalize packetE a b m = pe at *
    obtain ⟨c1, c2, c3, c4⟩ := cb
    obtain ⟨p1, p2⟩ := pe
    simp only at *
    repeat' (first | simp only [go_sem, Nat.reduceLT, Nat.reduceEqDiff, Nat.reduceAdd, Nat.reduceMul, Nat.reduceSub, Nat.reduceLeDiff, Int.reduceToNat, Int.reduceNeg, Int.reduceLT, Int.reduceLE, Int.reduceEq, reduceCtorEq, Int.natCast_zero, Int.natCast_one, Int.cast_ofNat_Int, Bool.not_not, false_eq_decide, true_eq_decide, hread0, hreadk, read_cons0, read_consk, astore_h0, astore_hk, hget0, hgetk, hset0, hsetk, hlen, hcat, Nat.add_assoc, Nat.add_zero, Nat.zero_add, List.length_append, and_true, true_and, AV.flat, *, -hK, -hlen, -oi, -op, -oq, -ox, -oy, -cl, -pl] | with_reducible refine IfB_dec (fun h => ?_) (fun h => ?_) | with_reducible refine Guard_dec (fun h => ?_) (fun h => ?_) | with_reducible refine Guard_ndec (fun h => ?_) (fun h => ?_) | with_reducible refine Guard_not (fun h => ?_) (fun h => ?_) | with_reducible refine IfB_ndec (fun h => ?_) (fun h => ?_) | with_reducible refine IfB_not (fun h => ?_) (fun h => ?_) | with_reducible refine Guard_split (fun h => ?_) (fun h => ?_) | with_reducible refine IfB_split (fun h => ?_) (fun h => ?_))
    clear e1 e2 e3 e4 op oq ox oy
    obtain ⟨np, hnp⟩ : ∃ np, np = p1.length := ⟨_, rfl⟩
    obtain ⟨n, hn⟩ : ∃ n, n = c2.length := ⟨_, rfl⟩
    rw [← hn] at hwb cl
    rw [← hnp] at hwp pl
    clear hn hnp
    obtain ⟨EX, hEX⟩ : ∃ EX : Heap → Prop, EX = fun G => WrB HB.length G vp np := ⟨_, rfl⟩
    have hex : EX H6 := by rw [hEX]; exact hwp
    have ovE : ∀ {G G' b j}, Over HB.length G G' b j → EX G → EX G' := fun ov h => by rw [hEX] at h ⊢; exact WrB.over h ov
    clear hwp
    refine WX_loopS [2, 7, 8, 13, 20] (fun q fr' H' => ∃ j : Nat, q = n - j ∧ j ≤ n ∧ fr'.get 21 = .int .i64 j ∧ WrB HB.length H' vx n ∧ EX H' ∧ Keep none HB H') n ⟨0, rfl, Nat.zero_le _, by simp only [go_sem, Nat.reduceLT, Nat.reduceEqDiff, Nat.reduceAdd, Nat.reduceMul, Nat.reduceSub, Nat.reduceLeDiff, Int.reduceToNat, Int.reduceNeg, Int.reduceLT, Int.reduceLE, Int.reduceEq, reduceCtorEq]; rfl, hwb, hex, hkk⟩ ?_
    clear hwb hkk hex
    rintro q fr' H7 A R hA hs hg hR ⟨j, rfl, hj, fk, hwb, hex, hkk⟩
    have s2 := hg 2 (by decide)
    have s7 := hg 7 (by decide)
    have s8 := hg 8 (by decide)
    have s13 := hg 13 (by decide)
    have s20 := hg 20 (by decide)
    simp only [Fr.get_put, Fr.get_init, List.getD_cons_zero, List.getD_cons_succ, Nat.reduceEqDiff, if_true, if_false] at s2 s7 s8 s13 s20
    have al := hwb.alen tk22
    refine wx_sound hT _ ?_
    by_cases hlt2 : j < n
    · obtain ⟨b2, o2, x, e3, e4, e5, hst⟩ := hwb.at_ se22 (te := 5) (by simp [asize, td5]) hlt2 (k := .i64) (z := j) rfl
      obtain ⟨H3, s2, ov⟩ := hst 77 _ rfl
      have u7 : ((77 : UInt8).toNat : Int) = 77 := rfl
      rw [u7] at s2
      have hltj : (j : Int) < n := by omega
      have ji : IntKind.i64.wrap ((j : Int) + 1) = ((j + 1 : Nat) : Int) := by rw [IntKind.wrap_i64]; omega
      clear u7
      repeat' (first | simp only [go_sem, Nat.reduceLT, Nat.reduceEqDiff, Nat.reduceAdd, Nat.reduceMul, Nat.reduceSub, Nat.reduceLeDiff, Int.reduceToNat, Int.reduceNeg, Int.reduceLT, Int.reduceLE, Int.reduceEq, reduceCtorEq, Int.natCast_zero, Int.natCast_one, Int.cast_ofNat_Int, Bool.not_not, false_eq_decide, true_eq_decide, hread0, hreadk, read_cons0, read_consk, astore_h0, astore_hk, hget0, hgetk, hset0, hsetk, hlen, hcat, Nat.add_assoc, Nat.add_zero, Nat.zero_add, List.length_append, and_true, true_and, AV.flat, *, -hK, -e5, -hst, -ov] | with_reducible refine IfB_dec (fun h => ?_) (fun h => ?_) | with_reducible refine Guard_dec (fun h => ?_) (fun h => ?_) | with_reducible refine Guard_ndec (fun h => ?_) (fun h => ?_) | with_reducible refine Guard_not (fun h => ?_) (fun h => ?_) | with_reducible refine IfB_ndec (fun h => ?_) (fun h => ?_) | with_reducible refine IfB_not (fun h => ?_) (fun h => ?_) | with_reducible refine Guard_split (fun h => ?_) (fun h => ?_) | with_reducible refine IfB_split (fun h => ?_) (fun h => ?_))
      exact hR _ _ (by (repeat (first | exact hs | refine hA _ _ _ (by decide) ?_))) (n - (j + 1)) (by omega) ⟨j + 1, rfl, by omega, by simp only [go_sem, Nat.reduceLT, Nat.reduceEqDiff, Nat.reduceAdd, Nat.reduceMul, Nat.reduceSub, Nat.reduceLeDiff, Int.reduceToNat, Int.reduceNeg, Int.reduceLT, Int.reduceLE, Int.reduceEq, reduceCtorEq], hwb.over ov, ovE ov hex, hkk.over ov (Nat.le_refl _)⟩
    have hltj : ¬ (j : Int) < n := by omega
    repeat' (first | simp only [go_sem, Nat.reduceLT, Nat.reduceEqDiff, Nat.reduceAdd, Nat.reduceMul, Nat.reduceSub, Nat.reduceLeDiff, Int.reduceToNat, Int.reduceNeg, Int.reduceLT, Int.reduceLE, Int.reduceEq, reduceCtorEq, Int.natCast_zero, Int.natCast_one, Int.cast_ofNat_Int, Bool.not_not, false_eq_decide, true_eq_decide, hread0, hreadk, read_cons0, read_consk, astore_h0, astore_hk, hget0, hgetk, hset0, hsetk, hlen, hcat, Nat.add_assoc, Nat.add_zero, Nat.zero_add, List.length_append, and_true, true_and, AV.flat, *, -hK] | with_reducible refine IfB_dec (fun h => ?_) (fun h => ?_) | with_reducible refine Guard_dec (fun h => ?_) (fun h => ?_) | with_reducible refine Guard_ndec (fun h => ?_) (fun h => ?_) | with_reducible refine Guard_not (fun h => ?_) (fun h => ?_) | with_reducible refine IfB_ndec (fun h => ?_) (fun h => ?_) | with_reducible refine IfB_not (fun h => ?_) (fun h => ?_) | with_reducible refine Guard_split (fun h => ?_) (fun h => ?_) | with_reducible refine IfB_split (fun h => ?_) (fun h => ?_))
    clear fk hwb hlt2 hltj hj hR hA hs hg al
    rw [hEX] at hex
    clear hEX ovE EX
    rename_i cn _
    clear cl
    obtain ⟨n, hn⟩ : ∃ n, n = np := ⟨_, rfl⟩
    rw [← hn] at hex pl
    have hwb := hex
    clear hex hn
    obtain ⟨EX, hEX⟩ : ∃ EX : Heap → Prop, EX = fun G => True := ⟨_, rfl⟩
    have hex : EX H7 := by rw [hEX]; trivial
    have ovE : ∀ {G G' b j}, Over HB.length G G' b j → EX G → EX G' := fun ov h => by rw [hEX]; trivial
    refine WX_loopS [2, 7, 8, 20] (fun q fr' H' => ∃ j : Nat, q = n - j ∧ j ≤ n ∧ fr'.get 22 = .int .i64 j ∧ WrB HB.length H' vp n ∧ EX H' ∧ Keep none HB H') n ⟨0, rfl, Nat.zero_le _, by simp only [go_sem, Nat.reduceLT, Nat.reduceEqDiff, Nat.reduceAdd, Nat.reduceMul, Nat.reduceSub, Nat.reduceLeDiff, Int.reduceToNat, Int.reduceNeg, Int.reduceLT, Int.reduceLE, Int.reduceEq, reduceCtorEq]; rfl, hwb, hex, hkk⟩ ?_
    clear hwb hkk hex
    rintro q fr' H8 A R hA hs hg hR ⟨j, rfl, hj, fk, hwb, hex, hkk⟩
    have s2 := hg 2 (by decide)
    have s7 := hg 7 (by decide)
    have s8 := hg 8 (by decide)
    have s20 := hg 20 (by decide)
    simp only [Fr.get_put, Fr.get_init, List.getD_cons_zero, List.getD_cons_succ, Nat.reduceEqDiff, if_true, if_false] at s2 s7 s8 s20
    have al := hwb.alen tk22
    refine wx_sound hT _ ?_
    by_cases hlt2 : j < n
    · obtain ⟨b2, o2, x, e3, e4, e5, hst⟩ := hwb.at_ se22 (te := 5) (by simp [asize, td5]) hlt2 (k := .i64) (z := j) rfl
      obtain ⟨H3, s2, ov⟩ := hst 77 _ rfl
      have u7 : ((77 : UInt8).toNat : Int) = 77 := rfl
      rw [u7] at s2
      have hltj : (j : Int) < n := by omega
      have ji : IntKind.i64.wrap ((j : Int) + 1) = ((j + 1 : Nat) : Int) := by rw [IntKind.wrap_i64]; omega
      clear u7
      repeat' (first | simp only [go_sem, Nat.reduceLT, Nat.reduceEqDiff, Nat.reduceAdd, Nat.reduceMul, Nat.reduceSub, Nat.reduceLeDiff, Int.reduceToNat, Int.reduceNeg, Int.reduceLT, Int.reduceLE, Int.reduceEq, reduceCtorEq, Int.natCast_zero, Int.natCast_one, Int.cast_ofNat_Int, Bool.not_not, false_eq_decide, true_eq_decide, hread0, hreadk, read_cons0, read_consk, astore_h0, astore_hk, hget0, hgetk, hset0, hsetk, hlen, hcat, Nat.add_assoc, Nat.add_zero, Nat.zero_add, List.length_append, and_true, true_and, AV.flat, *, -hK, -e5, -hst, -ov] | with_reducible refine IfB_dec (fun h => ?_) (fun h => ?_) | with_reducible refine Guard_dec (fun h => ?_) (fun h => ?_) | with_reducible refine Guard_ndec (fun h => ?_) (fun h => ?_) | with_reducible refine Guard_not (fun h => ?_) (fun h => ?_) | with_reducible refine IfB_ndec (fun h => ?_) (fun h => ?_) | with_reducible refine IfB_not (fun h => ?_) (fun h => ?_) | with_reducible refine Guard_split (fun h => ?_) (fun h => ?_) | with_reducible refine IfB_split (fun h => ?_) (fun h => ?_))
      exact hR _ _ (by (repeat (first | exact hs | refine hA _ _ _ (by decide) ?_))) (n - (j + 1)) (by omega) ⟨j + 1, rfl, by omega, by simp only [go_sem, Nat.reduceLT, Nat.reduceEqDiff, Nat.reduceAdd, Nat.reduceMul, Nat.reduceSub, Nat.reduceLeDiff, Int.reduceToNat, Int.reduceNeg, Int.reduceLT, Int.reduceLE, Int.reduceEq, reduceCtorEq], hwb.over ov, ovE ov hex, hkk.over ov (Nat.le_refl _)⟩
    have hltj : ¬ (j : Int) < n := by omega
    repeat' (first | simp only [go_sem, Nat.reduceLT, Nat.reduceEqDiff, Nat.reduceAdd, Nat.reduceMul, Nat.reduceSub, Nat.reduceLeDiff, Int.reduceToNat, Int.reduceNeg, Int.reduceLT, Int.reduceLE, Int.reduceEq, reduceCtorEq, Int.natCast_zero, Int.natCast_one, Int.cast_ofNat_Int, Bool.not_not, false_eq_decide, true_eq_decide, hread0, hreadk, read_cons0, read_consk, astore_h0, astore_hk, hget0, hgetk, hset0, hsetk, hlen, hcat, Nat.add_assoc, Nat.add_zero, Nat.zero_add, List.length_append, and_true, true_and, AV.flat, *, -hK] | with_reducible refine IfB_dec (fun h => ?_) (fun h => ?_) | with_reducible refine Guard_dec (fun h => ?_) (fun h => ?_) | with_reducible refine Guard_ndec (fun h => ?_) (fun h => ?_) | with_reducible refine Guard_not (fun h => ?_) (fun h => ?_) | with_reducible refine IfB_ndec (fun h => ?_) (fun h => ?_) | with_reducible refine IfB_not (fun h => ?_) (fun h => ?_) | with_reducible refine Guard_split (fun h => ?_) (fun h => ?_) | with_reducible refine IfB_split (fun h => ?_) (fun h => ?_))
    clear fk hwb hlt2 hltj hj hR hA hs hg al
    have e1 := (oi.keep0 hkk).bs.str se22 tk9 tk5
    have e2 := (hm.keep0 (k1.trans hkk)).str se22 tk9 tk5
    repeat' (first | simp only [go_sem, Nat.reduceLT, Nat.reduceEqDiff, Nat.reduceAdd, Nat.reduceMul, Nat.reduceSub, Nat.reduceLeDiff, Int.reduceToNat, Int.reduceNeg, Int.reduceLT, Int.reduceLE, Int.reduceEq, reduceCtorEq, Int.natCast_zero, Int.natCast_one, Int.cast_ofNat_Int, Bool.not_not, false_eq_decide, true_eq_decide, hread0, hreadk, read_cons0, read_consk, astore_h0, astore_hk, hget0, hgetk, hset0, hsetk, hlen, hcat, Nat.add_assoc, Nat.add_zero, Nat.zero_add, List.length_append, and_true, true_and, AV.flat, *, -hK] | with_reducible refine IfB_dec (fun h => ?_) (fun h => ?_) | with_reducible refine Guard_dec (fun h => ?_) (fun h => ?_) | with_reducible refine Guard_ndec (fun h => ?_) (fun h => ?_) | with_reducible refine Guard_not (fun h => ?_) (fun h => ?_) | with_reducible refine IfB_ndec (fun h => ?_) (fun h => ?_) | with_reducible refine IfB_not (fun h => ?_) (fun h => ?_) | with_reducible refine Guard_split (fun h => ?_) (fun h => ?_) | with_reducible refine IfB_split (fun h => ?_) (fun h => ?_))
    exact hK _ _ rfl
  · skip
    repeat' (first | simp only [go_sem, Nat.reduceLT, Nat.reduceEqDiff, Nat.reduceAdd, Nat.reduceMul, Nat.reduceSub, Nat.reduceLeDiff, Int.reduceToNat, Int.reduceNeg, Int.reduceLT, Int.reduceLE, Int.reduceEq, reduceCtorEq, Int.natCast_zero, Int.natCast_one, Int.cast_ofNat_Int, Bool.not_not, false_eq_decide, true_eq_decide, hread0, hreadk, read_cons0, read_consk, astore_h0, astore_hk, hget0, hgetk, hset0, hsetk, hlen, hcat, Nat.add_assoc, Nat.add_zero, Nat.zero_add, List.length_append, and_true, true_and, AV.flat, *, -hK, -hlen] | with_reducible refine IfB_dec (fun h => ?_) (fun h => ?_) | with_reducible refine Guard_dec (fun h => ?_) (fun h => ?_) | with_reducible refine Guard_ndec (fun h => ?_) (fun h => ?_) | with_reducible refine Guard_not (fun h => ?_) (fun h => ?_) | with_reducible refine IfB_ndec (fun h => ?_) (fun h => ?_) | with_reducible refine IfB_not (fun h => ?_) (fun h => ?_) | with_reducible refine Guard_split (fun h => ?_) (fun h => ?_) | with_reducible refine IfB_split (fun h => ?_) (fun h => ?_))
    refine copy_ob hm se22 az5 td5 rfl tk22 (by omega) ?_
    intro vi HB oi k1
    repeat' (first | simp only [go_sem, Nat.reduceLT, Nat.reduceEqDiff, Nat.reduceAdd, Nat.reduceMul, Nat.reduceSub, Nat.reduceLeDiff, Int.reduceToNat, Int.reduceNeg, Int.reduceLT, Int.reduceLE, Int.reduceEq, reduceCtorEq, Int.natCast_zero, Int.natCast_one, Int.cast_ofNat_Int, Bool.not_not, false_eq_decide, true_eq_decide, hread0, hreadk, read_cons0, read_consk, astore_h0, astore_hk, hget0, hgetk, hset0, hsetk, hlen, hcat, Nat.add_assoc, Nat.add_zero, Nat.zero_add, List.length_append, and_true, true_and, AV.flat, *, -hK, -hlen, -oi] | with_reducible refine IfB_dec (fun h => ?_) (fun h => ?_) | with_reducible refine Guard_dec (fun h => ?_) (fun h => ?_) | with_reducible refine Guard_ndec (fun h => ?_) (fun h => ?_) | with_reducible refine Guard_not (fun h => ?_) (fun h => ?_) | with_reducible refine IfB_ndec (fun h => ?_) (fun h => ?_) | with_reducible refine IfB_not (fun h => ?_) (fun h => ?_) | with_reducible refine Guard_split (fun h => ?_) (fun h => ?_) | with_reducible refine IfB_split (fun h => ?_) (fun h => ?_))
    refine (Packet_spec a b vi m hml _ oi.bs).mono ?_
    rintro r H3 ⟨⟨vp, rfl, op⟩, k3⟩
    repeat' (first | simp only [go_sem, Nat.reduceLT, Nat.reduceEqDiff, Nat.reduceAdd, Nat.reduceMul, Nat.reduceSub, Nat.reduceLeDiff, Int.reduceToNat, Int.reduceNeg, Int.reduceLT, Int.reduceLE, Int.reduceEq, reduceCtorEq, Int.natCast_zero, Int.natCast_one, Int.cast_ofNat_Int, Bool.not_not, false_eq_decide, true_eq_decide, hread0, hreadk, read_cons0, read_consk, astore_h0, astore_hk, hget0, hgetk, hset0, hsetk, hlen, hcat, Nat.add_assoc, Nat.add_zero, Nat.zero_add, List.length_append, and_true, true_and, AV.flat, *, -hK, -hlen, -oi, -op] | with_reducible refine IfB_dec (fun h => ?_) (fun h => ?_) | with_reducible refine Guard_dec (fun h => ?_) (fun h => ?_) | with_reducible refine Guard_ndec (fun h => ?_) (fun h => ?_) | with_reducible refine Guard_not (fun h => ?_) (fun h => ?_) | with_reducible refine IfB_ndec (fun h => ?_) (fun h => ?_) | with_reducible refine IfB_not (fun h => ?_) (fun h => ?_) | with_reducible refine Guard_split (fun h => ?_) (fun h => ?_) | with_reducible refine IfB_split (fun h => ?_) (fun h => ?_))
    refine (refPacket_spec a b a2 m hml _ (hm.keep0 (k1.trans k3))).mono ?_
    rintro r H4 ⟨⟨vq, rfl, oq⟩, k4⟩
    repeat' (first | simp only [go_sem, Nat.reduceLT, Nat.reduceEqDiff, Nat.reduceAdd, Nat.reduceMul, Nat.reduceSub, Nat.reduceLeDiff, Int.reduceToNat, Int.reduceNeg, Int.reduceLT, Int.reduceLE, Int.reduceEq, reduceCtorEq, Int.natCast_zero, Int.natCast_one, Int.cast_ofNat_Int, Bool.not_not, false_eq_decide, true_eq_decide, hread0, hreadk, read_cons0, read_consk, astore_h0, astore_hk, hget0, hgetk, hset0, hsetk, hlen, hcat, Nat.add_assoc, Nat.add_zero, Nat.zero_add, List.length_append, and_true, true_and, AV.flat, *, -hK, -hlen, -oi, -op, -oq] | with_reducible refine IfB_dec (fun h => ?_) (fun h => ?_) | with_reducible refine Guard_dec (fun h => ?_) (fun h => ?_) | with_reducible refine Guard_ndec (fun h => ?_) (fun h => ?_) | with_reducible refine Guard_not (fun h => ?_) (fun h => ?_) | with_reducible refine IfB_ndec (fun h => ?_) (fun h => ?_) | with_reducible refine IfB_not (fun h => ?_) (fun h => ?_) | with_reducible refine Guard_split (fun h => ?_) (fun h => ?_) | with_reducible refine IfB_split (fun h => ?_) (fun h => ?_))
    refine (Cut_spec a vi m _ ((oi.keep0 (k3.trans k4)).bs)).mono ?_
    rintro r H5 ⟨⟨vx, rfl, ox⟩, k5⟩
    repeat' (first | simp only [go_sem, Nat.reduceLT, Nat.reduceEqDiff, Nat.reduceAdd, Nat.reduceMul, Nat.reduceSub, Nat.reduceLeDiff, Int.reduceToNat, Int.reduceNeg, Int.reduceLT, Int.reduceLE, Int.reduceEq, reduceCtorEq, Int.natCast_zero, Int.natCast_one, Int.cast_ofNat_Int, Bool.not_not, false_eq_decide, true_eq_decide, hread0, hreadk, read_cons0, read_consk, astore_h0, astore_hk, hget0, hgetk, hset0, hsetk, hlen, hcat, Nat.add_assoc, Nat.add_zero, Nat.zero_add, List.length_append, and_true, true_and, AV.flat, *, -hK, -hlen, -oi, -op, -oq, -ox] | with_reducible refine IfB_dec (fun h => ?_) (fun h => ?_) | with_reducible refine Guard_dec (fun h => ?_) (fun h => ?_) | with_reducible refine Guard_ndec (fun h => ?_) (fun h => ?_) | with_reducible refine Guard_not (fun h => ?_) (fun h => ?_) | with_reducible refine IfB_ndec (fun h => ?_) (fun h => ?_) | with_reducible refine IfB_not (fun h => ?_) (fun h => ?_) | with_reducible refine Guard_split (fun h => ?_) (fun h => ?_) | with_reducible refine IfB_split (fun h => ?_) (fun h => ?_))
    refine (refCut_spec a a2 m _ (hm.keep0 ((k1.trans k3).trans (k4.trans k5)))).mono ?_
    rintro r H6 ⟨⟨vy, rfl, oy⟩, k6⟩
    have k46 := (k4.trans k5).trans k6
    have e1 := (op.keep0 k46).bs.str se22 tk9 tk5
    have e2 := (oq.keep0 (k5.trans k6)).bs.str se22 tk9 tk5
    have e3 := (ox.keep0 k6).bs.str se22 tk9 tk5
    have e4 := oy.bs.str se22 tk9 tk5
    have cl := cutB_len a m
    have pl := packetE_len a b m
    have ge3 := k3.len
    have ge4 := k4.len
    have ge5 := k5.len
    have ge6 := k6.len
    have hwb := (WrB.of_ob (ox.keep0 k6)).mono (m' := HB.length) (by omega)
    have hwp := (WrB.of_ob (op.keep0 k46)).mono (m' := HB.length) (by omega)
    have hkk : Keep none HB H6 := k3.trans k46
    generalize cutB a m = cb at *
    generalize packetE a b m = pe at *
    obtain ⟨c1, c2, c3, c4⟩ := cb
    obtain ⟨p1, p2⟩ := pe
    simp only at *
    repeat' (first | simp only [go_sem, Nat.reduceLT, Nat.reduceEqDiff, Nat.reduceAdd, Nat.reduceMul, Nat.reduceSub, Nat.reduceLeDiff, Int.reduceToNat, Int.reduceNeg, Int.reduceLT, Int.reduceLE, Int.reduceEq, reduceCtorEq, Int.natCast_zero, Int.natCast_one, Int.cast_ofNat_Int, Bool.not_not, false_eq_decide, true_eq_decide, hread0, hreadk, read_cons0, read_consk, astore_h0, astore_hk, hget0, hgetk, hset0, hsetk, hlen, hcat, Nat.add_assoc, Nat.add_zero, Nat.zero_add, List.length_append, and_true, true_and, AV.flat, *, -hK, -hlen, -oi, -op, -oq, -ox, -oy, -cl, -pl] | with_reducible refine IfB_dec (fun h => ?_) (fun h => ?_) | with_reducible refine Guard_dec (fun h => ?_) (fun h => ?_) | with_reducible refine Guard_ndec (fun h => ?_) (fun h => ?_) | with_reducible refine Guard_not (fun h => ?_) (fun h => ?_) | with_reducible refine IfB_ndec (fun h => ?_) (fun h => ?_) | with_reducible refine IfB_not (fun h => ?_) (fun h => ?_) | with_reducible refine Guard_split (fun h => ?_) (fun h => ?_) | with_reducible refine IfB_split (fun h => ?_) (fun h => ?_))
    clear e1 e2 e3 e4 op oq ox oy
    obtain ⟨np, hnp⟩ : ∃ np, np = p1.length := ⟨_, rfl⟩
    obtain ⟨n, hn⟩ : ∃ n, n = c2.length := ⟨_, rfl⟩
    rw [← hn] at hwb cl
    rw [← hnp] at hwp pl
    clear hn hnp
    obtain ⟨EX, hEX⟩ : ∃ EX : Heap → Prop, EX = fun G => WrB HB.length G vp np := ⟨_, rfl⟩
    have hex : EX H6 := by rw [hEX]; exact hwp
    have ovE : ∀ {G G' b j}, Over HB.length G G' b j → EX G → EX G' := fun ov h => by rw [hEX] at h ⊢; exact WrB.over h ov
    clear hwp
    refine WX_loopS [2, 7, 8, 13, 20] (fun q fr' H' => ∃ j : Nat, q = n - j ∧ j ≤ n ∧ fr'.get 21 = .int .i64 j ∧ WrB HB.length H' vx n ∧ EX H' ∧ Keep none HB H') n ⟨0, rfl, Nat.zero_le _, by simp only [go_sem, Nat.reduceLT, Nat.reduceEqDiff, Nat.reduceAdd, Nat.reduceMul, Nat.reduceSub, Nat.reduceLeDiff, Int.reduceToNat, Int.reduceNeg, Int.reduceLT, Int.reduceLE, Int.reduceEq, reduceCtorEq]; rfl, hwb, hex, hkk⟩ ?_
    clear hwb hkk hex
    rintro q fr' H7 A R hA hs hg hR ⟨j, rfl, hj, fk, hwb, hex, hkk⟩
    have s2 := hg 2 (by decide)
    have s7 := hg 7 (by decide)
    have s8 := hg 8 (by decide)
    have s13 := hg 13 (by decide)
    have s20 := hg 20 (by decide)
    simp only [Fr.get_put, Fr.get_init, List.getD_cons_zero, List.getD_cons_succ, Nat.reduceEqDiff, if_true, if_false] at s2 s7 s8 s13 s20
    have al := hwb.alen tk22
    refine wx_sound hT _ ?_
    by_cases hlt2 : j < n
    · obtain ⟨b2, o2, x, e3, e4, e5, hst⟩ := hwb.at_ se22 (te := 5) (by simp [asize, td5]) hlt2 (k := .i64) (z := j) rfl
      obtain ⟨H3, s2, ov⟩ := hst 77 _ rfl
      have u7 : ((77 : UInt8).toNat : Int) = 77 := rfl
      rw [u7] at s2
      have hltj : (j : Int) < n := by omega
      have ji : IntKind.i64.wrap ((j : Int) + 1) = ((j + 1 : Nat) : Int) := by rw [IntKind.wrap_i64]; omega
      clear u7
      repeat' (first | simp only [go_sem, Nat.reduceLT, Nat.reduceEqDiff, Nat.reduceAdd, Nat.reduceMul, Nat.reduceSub, Nat.reduceLeDiff, Int.reduceToNat, Int.reduceNeg, Int.reduceLT, Int.reduceLE, Int.reduceEq, reduceCtorEq, Int.natCast_zero, Int.natCast_one, Int.cast_ofNat_Int, Bool.not_not, false_eq_decide, true_eq_decide, hread0, hreadk, read_cons0, read_consk, astore_h0, astore_hk, hget0, hgetk, hset0, hsetk, hlen, hcat, Nat.add_assoc, Nat.add_zero, Nat.zero_add, List.length_append, and_true, true_and, AV.flat, *, -hK, -e5, -hst, -ov] | with_reducible refine IfB_dec (fun h => ?_) (fun h => ?_) | with_reducible refine Guard_dec (fun h => ?_) (fun h => ?_) | with_reducible refine Guard_ndec (fun h => ?_) (fun h => ?_) | with_reducible refine Guard_not (fun h => ?_) (fun h => ?_) | with_reducible refine IfB_ndec (fun h => ?_) (fun h => ?_) | with_reducible refine IfB_not (fun h => ?_) (fun h => ?_) | with_reducible refine Guard_split (fun h => ?_) (fun h => ?_) | with_reducible refine IfB_split (fun h => ?_) (fun h => ?_))
      exact hR _ _ (by (repeat (first | exact hs | refine hA _ _ _ (by decide) ?_))) (n - (j + 1)) (by omega) ⟨j + 1, rfl, by omega, by simp only [go_sem, Nat.reduceLT, Nat.reduceEqDiff, Nat.reduceAdd, Nat.reduceMul, Nat.reduceSub, Nat.reduceLeDiff, Int.reduceToNat, Int.reduceNeg, Int.reduceLT, Int.reduceLE, Int.reduceEq, reduceCtorEq], hwb.over ov, ovE ov hex, hkk.over ov (Nat.le_refl _)⟩
    have hltj : ¬ (j : Int) < n := by omega
    repeat' (first | simp only [go_sem, Nat.reduceLT, Nat.reduceEqDiff, Nat.reduceAdd, Nat.reduceMul, Nat.reduceSub, Nat.reduceLeDiff, Int.reduceToNat, Int.reduceNeg, Int.reduceLT, Int.reduceLE, Int.reduceEq, reduceCtorEq, Int.natCast_zero, Int.natCast_one, Int.cast_ofNat_Int, Bool.not_not, false_eq_decide, true_eq_decide, hread0, hreadk, read_cons0, read_consk, astore_h0, astore_hk, hget0, hgetk, hset0, hsetk, hlen, hcat, Nat.add_assoc, Nat.add_zero, Nat.zero_add, List.length_append, and_true, true_and, AV.flat, *, -hK] | with_reducible refine IfB_dec (fun h => ?_) (fun h => ?_) | with_reducible refine Guard_dec (fun h => ?_) (fun h => ?_) | with_reducible refine Guard_ndec (fun h => ?_) (fun h => ?_) | with_reducible refine Guard_not (fun h => ?_) (fun h => ?_) | with_reducible refine IfB_ndec (fun h => ?_) (fun h => ?_) | with_reducible refine IfB_not (fun h => ?_) (fun h => ?_) | with_reducible refine Guard_split (fun h => ?_) (fun h => ?_) | with_reducible refine IfB_split (fun h => ?_) (fun h => ?_))
    clear fk hwb hlt2 hltj hj hR hA hs hg al
    rw [hEX] at hex
    clear hEX ovE EX
    rename_i cn _
    clear cl
    obtain ⟨n, hn⟩ : ∃ n, n = np := ⟨_, rfl⟩
    rw [← hn] at hex pl
    have hwb := hex
    clear hex hn
    obtain ⟨EX, hEX⟩ : ∃ EX : Heap → Prop, EX = fun G => True := ⟨_, rfl⟩
    have hex : EX H7 := by rw [hEX]; trivial
    have ovE : ∀ {G G' b j}, Over HB.length G G' b j → EX G → EX G' := fun ov h => by rw [hEX]; trivial
    refine WX_loopS [2, 7, 8, 20] (fun q fr' H' => ∃ j : Nat, q = n - j ∧ j ≤ n ∧ fr'.get 22 = .int .i64 j ∧ WrB HB.length H' vp n ∧ EX H' ∧ Keep none HB H') n ⟨0, rfl, Nat.zero_le _, by simp only [go_sem, Nat.reduceLT, Nat.reduceEqDiff, Nat.reduceAdd, Nat.reduceMul, Nat.reduceSub, Nat.reduceLeDiff, Int.reduceToNat, Int.reduceNeg, Int.reduceLT, Int.reduceLE, Int.reduceEq, reduceCtorEq]; rfl, hwb, hex, hkk⟩ ?_
    clear hwb hkk hex
    rintro q fr' H8 A R hA hs hg hR ⟨j, rfl, hj, fk, hwb, hex, hkk⟩
    have s2 := hg 2 (by decide)
    have s7 := hg 7 (by decide)
    have s8 := hg 8 (by decide)
    have s20 := hg 20 (by decide)
    simp only [Fr.get_put, Fr.get_init, List.getD_cons_zero, List.getD_cons_succ, Nat.reduceEqDiff, if_true, if_false] at s2 s7 s8 s20
    have al := hwb.alen tk22
    refine wx_sound hT _ ?_
    by_cases hlt2 : j < n
    · obtain ⟨b2, o2, x, e3, e4, e5, hst⟩ := hwb.at_ se22 (te := 5) (by simp [asize, td5]) hlt2 (k := .i64) (z := j) rfl
      obtain ⟨H3, s2, ov⟩ := hst 77 _ rfl
      have u7 : ((77 : UInt8).toNat : Int) = 77 := rfl
      rw [u7] at s2
      have hltj : (j : Int) < n := by omega
      have ji : IntKind.i64.wrap ((j : Int) + 1) = ((j + 1 : Nat) : Int) := by rw [IntKind.wrap_i64]; omega
      clear u7
      repeat' (first | simp only [go_sem, Nat.reduceLT, Nat.reduceEqDiff, Nat.reduceAdd, Nat.reduceMul, Nat.reduceSub, Nat.reduceLeDiff, Int.reduceToNat, Int.reduceNeg, Int.reduceLT, Int.reduceLE, Int.reduceEq, reduceCtorEq, Int.natCast_zero, Int.natCast_one, Int.cast_ofNat_Int, Bool.not_not, false_eq_decide, true_eq_decide, hread0, hreadk, read_cons0, read_consk, astore_h0, astore_hk, hget0, hgetk, hset0, hsetk, hlen, hcat, Nat.add_assoc, Nat.add_zero, Nat.zero_add, List.length_append, and_true, true_and, AV.flat, *, -hK, -e5, -hst, -ov] | with_reducible refine IfB_dec (fun h => ?_) (fun h => ?_) | with_reducible refine Guard_dec (fun h => ?_) (fun h => ?_) | with_reducible refine Guard_ndec (fun h => ?_) (fun h => ?_) | with_reducible refine Guard_not (fun h => ?_) (fun h => ?_) | with_reducible refine IfB_ndec (fun h => ?_) (fun h => ?_) | with_reducible refine IfB_not (fun h => ?_) (fun h => ?_) | with_reducible refine Guard_split (fun h => ?_) (fun h => ?_) | with_reducible refine IfB_split (fun h => ?_) (fun h => ?_))
      exact hR _ _ (by (repeat (first | exact hs | refine hA _ _ _ (by decide) ?_))) (n - (j + 1)) (by omega) ⟨j + 1, rfl, by omega, by simp only [go_sem, Nat.reduceLT, Nat.reduceEqDiff, Nat.reduceAdd, Nat.reduceMul, Nat.reduceSub, Nat.reduceLeDiff, Int.reduceToNat, Int.reduceNeg, Int.reduceLT, Int.reduceLE, Int.reduceEq, reduceCtorEq], hwb.over ov, ovE ov hex, hkk.over ov (Nat.le_refl _)⟩
    have hltj : ¬ (j : Int) < n := by omega
    repeat' (first | simp only [go_sem, Nat.reduceLT, Nat.reduceEqDiff, Nat.reduceAdd, Nat.reduceMul, Nat.reduceSub, Nat.reduceLeDiff, Int.reduceToNat, Int.reduceNeg, Int.reduceLT, Int.reduceLE, Int.reduceEq, reduceCtorEq, Int.natCast_zero, Int.natCast_one, Int.cast_ofNat_Int, Bool.not_not, false_eq_decide, true_eq_decide, hread0, hreadk, read_cons0, read_consk, astore_h0, astore_hk, hget0, hgetk, hset0, hsetk, hlen, hcat, Nat.add_assoc, Nat.add_zero, Nat.zero_add, List.length_append, and_true, true_and, AV.flat, *, -hK] | with_reducible refine IfB_dec (fun h => ?_) (fun h => ?_) | with_reducible refine Guard_dec (fun h => ?_) (fun h => ?_) | with_reducible refine Guard_ndec (fun h => ?_) (fun h => ?_) | with_reducible refine Guard_not (fun h => ?_) (fun h => ?_) | with_reducible refine IfB_ndec (fun h => ?_) (fun h => ?_) | with_reducible refine IfB_not (fun h => ?_) (fun h => ?_) | with_reducible refine Guard_split (fun h => ?_) (fun h => ?_) | with_reducible refine IfB_split (fun h => ?_) (fun h => ?_))
    clear fk hwb hlt2 hltj hj hR hA hs hg al
    have e1 := (oi.keep0 hkk).bs.str se22 tk9 tk5
    have e2 := (hm.keep0 (k1.trans hkk)).str se22 tk9 tk5
    repeat' (first | simp only [go_sem, Nat.reduceLT, Nat.reduceEqDiff, Nat.reduceAdd, Nat.reduceMul, Nat.reduceSub, Nat.reduceLeDiff, Int.reduceToNat, Int.reduceNeg, Int.reduceLT, Int.reduceLE, Int.reduceEq, reduceCtorEq, Int.natCast_zero, Int.natCast_one, Int.cast_ofNat_Int, Bool.not_not, false_eq_decide, true_eq_decide, hread0, hreadk, read_cons0, read_consk, astore_h0, astore_hk, hget0, hgetk, hset0, hsetk, hlen, hcat, Nat.add_assoc, Nat.add_zero, Nat.zero_add, List.length_append, and_true, true_and, AV.flat, *, -hK] | with_reducible refine IfB_dec (fun h => ?_) (fun h => ?_) | with_reducible refine Guard_dec (fun h => ?_) (fun h => ?_) | with_reducible refine Guard_ndec (fun h => ?_) (fun h => ?_) | with_reducible refine Guard_not (fun h => ?_) (fun h => ?_) | with_reducible refine IfB_ndec (fun h => ?_) (fun h => ?_) | with_reducible refine IfB_not (fun h => ?_) (fun h => ?_) | with_reducible refine Guard_split (fun h => ?_) (fun h => ?_) | with_reducible refine IfB_split (fun h => ?_) (fun h => ?_))
    exact hK _ _ rfl
end Go.Proofs.YtchpmfpmnhopoaaRR
