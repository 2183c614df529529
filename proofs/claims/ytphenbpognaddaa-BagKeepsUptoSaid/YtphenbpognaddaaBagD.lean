import Derived.Test.YtphenbpognaddaaBagC
import Derived.Test.YtphenbpognaddaaPiU
import Derived.Test.YtphenbpognaddaaPiSem
set_option linter.unusedSimpArgs false
set_option linter.unusedVariables false
set_option maxRecDepth 100000
set_option maxHeartbeats 4000000
namespace Go.Proofs.Ytphenbpognaddaa
open Go Go.Proofs Go.Proofs.PI

theorem u8_inc (x : UInt8) : IntKind.u8.wrap ((x.toNat : Int) + 1) = ((x + 1).toNat : Int) := by
  rw [IntKind.wrap_u8, UInt8.toNat_add]; simp
theorem piecesGo_len {b : List UInt8} : ∀ (l : List Int) (f : Nat) (p : List (List UInt8)), piecesGo b f l = some p → p.length = l.length + 1 ∧ ∀ x ∈ p, x.length ≤ b.length
  | [], f, p, h => by simp [piecesGo] at h; subst h; simp
  | a :: l, f, p, h => by
    simp only [piecesGo] at h
    split at h
    · cases h
    · cases hq : piecesGo b a.toNat l with
      | none => rw [hq] at h; cases h
      | some q =>
        rw [hq] at h
        simp only [Option.map_some, Option.some.injEq] at h
        subst h
        obtain ⟨h1, h2⟩ := piecesGo_len l _ q hq
        refine ⟨by simp [h1], fun x hx => ?_⟩
        rcases List.mem_cons.1 hx with rfl | hx
        · simp; omega
        · exact h2 x hx
theorem piecesL_len {b : List UInt8} {l : List Int} : (piecesL b l).1.length ≤ 257 ∧ ∀ x ∈ (piecesL b l).1, x.length ≤ b.length := by
  unfold piecesL
  split
  · simp
  · split
    · simp
    · split
      · rename_i p hp
        obtain ⟨h1, h2⟩ := piecesGo_len l 0 p hp
        exact ⟨by simp only [h1]; omega, h2⟩
      · simp
theorem joinGo_len : ∀ (l : List (List UInt8)) (a p : List UInt8), a.length ≤ 16384 → joinGo a l = some p → p.length ≤ 16384
  | [], a, p, ha, h => by simp [joinGo] at h; subst h; exact ha
  | x :: l, a, p, ha, h => by
    simp only [joinGo] at h
    split at h
    · cases h
    · exact joinGo_len l _ p (by simp; omega) h
theorem joinL_len {l : List (List UInt8)} : (joinL l).1.length ≤ 16384 := by
  unfold joinL
  split
  · simp
  · split
    · rename_i p hp; exact joinGo_len l [] p (by simp) hp
    · simp
theorem bagPieces_walk (H : Heap) (avs : List AV) (h : InpAll T H 9 [22, 23, 24] avs) : WC Try.prog 3 avs H fun v _ => v = .bool true := by
  obtain ⟨a0, _, rfl, h0, h⟩ := h.cons
  obtain ⟨a1, _, rfl, h1, h⟩ := h.cons
  obtain ⟨a2, _, rfl, h2, h⟩ := h.cons
  obtain rfl := h.nil
  obtain ⟨b, hb, hbl⟩ := Inp.bytes tk22 tk5 (by simp [asize, td5]) h0
  obtain ⟨at_, ha, hal, _⟩ := Inp.ints tk23 tk3 (by simp [asize, td3]) h1
  obtain ⟨ls, hl, hll, hle⟩ := Inp.byteses tk24 (by simp [asize, td22]) tk22 tk5 (by simp [asize, td5]) h2
  clear h0 h1 h2
  have hbl := hbl _ td5
  have hal := hal _ td3
  have hll := hll _ td22
  have hle : ∀ x ∈ ls, x.length ≤ 140737488355328 := fun x hx => by have := hle x hx _ td5; unfold reachBytes at this; simp at this; omega
  unfold reachBytes at hbl hal hll
  simp only [Nat.mul_one] at hbl hal hll
  refine WC_of_K fun K hK => ?_
  refine WC_of_body hT Try.func3 rfl (by simp [Try.f3]) (by simp [Try.f3]) (wx_sound hT _ ?_)
  simp only [Try.f3]
  simp only [go_sem, Nat.reduceLT, Nat.reduceEqDiff, Nat.reduceAdd, Nat.reduceMul, Nat.reduceSub, Nat.reduceLeDiff, Int.reduceToNat, Int.reduceNeg, Int.reduceLT, Int.reduceLE, Int.reduceEq, reduceCtorEq, hb.alen tk22]
  refine Guard_ndec (fun g1 => ?_) (fun g1 => ?_)
  case refine_2 => simp only [go_sem, Nat.reduceLT, Nat.reduceEqDiff, Nat.reduceAdd, Nat.reduceMul, Nat.reduceSub, Nat.reduceLeDiff, Int.reduceToNat, Int.reduceNeg, Int.reduceLT, Int.reduceLE, Int.reduceEq, reduceCtorEq, g1]; exact hK _ _ rfl
  simp only [go_sem, Nat.reduceLT, Nat.reduceEqDiff, Nat.reduceAdd, Nat.reduceMul, Nat.reduceSub, Nat.reduceLeDiff, Int.reduceToNat, Int.reduceNeg, Int.reduceLT, Int.reduceLE, Int.reduceEq, reduceCtorEq, g1, Vs.alen ha tk23]
  refine Guard_ndec (fun g2 => ?_) (fun g2 => ?_)
  case refine_2 => simp only [go_sem, Nat.reduceLT, Nat.reduceEqDiff, Nat.reduceAdd, Nat.reduceMul, Nat.reduceSub, Nat.reduceLeDiff, Int.reduceToNat, Int.reduceNeg, Int.reduceLT, Int.reduceLE, Int.reduceEq, reduceCtorEq, g2]; exact hK _ _ rfl
  simp only [go_sem, Nat.reduceLT, Nat.reduceEqDiff, Nat.reduceAdd, Nat.reduceMul, Nat.reduceSub, Nat.reduceLeDiff, Int.reduceToNat, Int.reduceNeg, Int.reduceLT, Int.reduceLE, Int.reduceEq, reduceCtorEq, g2]
  refine (heavy_spec a2 ls (by omega) _ hl).mono ?_
  rintro r H' ⟨⟨bb, rfl, hbb⟩, rfl⟩
  simp only [go_sem, Nat.reduceLT, Nat.reduceEqDiff, Nat.reduceAdd, Nat.reduceMul, Nat.reduceSub, Nat.reduceLeDiff, Int.reduceToNat, Int.reduceNeg, Int.reduceLT, Int.reduceLE, Int.reduceEq, reduceCtorEq]
  refine IfB_split (fun q => ?_) (fun q => ?_)
  · simp only [go_sem, Nat.reduceLT, Nat.reduceEqDiff, Nat.reduceAdd, Nat.reduceMul, Nat.reduceSub, Nat.reduceLeDiff, Int.reduceToNat, Int.reduceNeg, Int.reduceLT, Int.reduceLE, Int.reduceEq, reduceCtorEq]
    exact hK _ _ rfl
  have hls := hbb q
  clear hbb q
  have hle' : ∀ x ∈ ls, x.length ≤ 140737488355328 := fun x hx => by have := hle x hx; omega
  simp only [go_sem, Nat.reduceLT, Nat.reduceEqDiff, Nat.reduceAdd, Nat.reduceMul, Nat.reduceSub, Nat.reduceLeDiff, Int.reduceToNat, Int.reduceNeg, Int.reduceLT, Int.reduceLE, Int.reduceEq, reduceCtorEq]
  refine copy_ob hb se22 az5 td5 rfl tk22 (by omega) ?_
  intro vi H1 oi k1
  simp only [go_sem, Nat.reduceLT, Nat.reduceEqDiff, Nat.reduceAdd, Nat.reduceMul, Nat.reduceSub, Nat.reduceLeDiff, Int.reduceToNat, Int.reduceNeg, Int.reduceLT, Int.reduceLE, Int.reduceEq, reduceCtorEq]
  refine copy_own (m := H1.length) (Vs.keep0 ha k1) se23 az3 td3 tk23 (by decide) (by rw [List.length_map]; show _ * 8 ≤ _; omega) (by rw [List.length_map]; omega) (Nat.le_refl _) ?_
  intro vp H2 op k2
  have ip := op.vs1
  have k12 := k1.trans k2
  simp only [go_sem, Nat.reduceLT, Nat.reduceEqDiff, Nat.reduceAdd, Nat.reduceMul, Nat.reduceSub, Nat.reduceLeDiff, Int.reduceToNat, Int.reduceNeg, Int.reduceLT, Int.reduceLE, Int.reduceEq, reduceCtorEq]
  refine (refTwin_spec a2 ls (by omega) hle' _ (hl.keep0 k12)).mono ?_
  rintro vo H3 ⟨oo, k3⟩
  have oi3 := oi.keep0 (k2.trans k3)
  have ip3 := Vs.keep0 ip k3
  have k13 := k12.trans k3
  simp only [go_sem, Nat.reduceLT, Nat.reduceEqDiff, Nat.reduceAdd, Nat.reduceMul, Nat.reduceSub, Nat.reduceLeDiff, Int.reduceToNat, Int.reduceNeg, Int.reduceLT, Int.reduceLE, Int.reduceEq, reduceCtorEq]
  refine (pieces_spec vi vp b at_ (by omega) _ oi3.bs ip3).mono ?_
  rintro r H4 ⟨⟨vq, rfl, oq⟩, k4⟩
  simp only [go_sem, Nat.reduceLT, Nat.reduceEqDiff, Nat.reduceAdd, Nat.reduceMul, Nat.reduceSub, Nat.reduceLeDiff, Int.reduceToNat, Int.reduceNeg, Int.reduceLT, Int.reduceLE, Int.reduceEq, reduceCtorEq]
  refine (refPieces_spec a0 a1 b at_ (by omega) _ (hb.keep0 (k13.trans k4)) (Vs.keep0 ha (k13.trans k4))).mono ?_
  rintro r H5 ⟨⟨vr, rfl, or⟩, k5⟩
  simp only [go_sem, Nat.reduceLT, Nat.reduceEqDiff, Nat.reduceAdd, Nat.reduceMul, Nat.reduceSub, Nat.reduceLeDiff, Int.reduceToNat, Int.reduceNeg, Int.reduceLT, Int.reduceLE, Int.reduceEq, reduceCtorEq]
  have oo5 := OwnOf.keep0 oo (k4.trans k5)
  refine (join_spec vo ls hle' (by omega) _ (Obs.sl oo5)).mono ?_
  rintro r H6 ⟨⟨vx, rfl, ox⟩, k6⟩
  simp only [go_sem, Nat.reduceLT, Nat.reduceEqDiff, Nat.reduceAdd, Nat.reduceMul, Nat.reduceSub, Nat.reduceLeDiff, Int.reduceToNat, Int.reduceNeg, Int.reduceLT, Int.reduceLE, Int.reduceEq, reduceCtorEq]
  have k16 := ((k13.trans k4).trans k5).trans k6
  refine (refJoin_spec a2 ls hle' (by omega) _ (hl.keep0 k16)).mono ?_
  rintro r H7 ⟨⟨vy, rfl, oy⟩, k7⟩
  simp only [go_sem, Nat.reduceLT, Nat.reduceEqDiff, Nat.reduceAdd, Nat.reduceMul, Nat.reduceSub, Nat.reduceLeDiff, Int.reduceToNat, Int.reduceNeg, Int.reduceLT, Int.reduceLE, Int.reduceEq, reduceCtorEq]
  have oq7 := OwnOf.keep0 oq ((k5.trans k6).trans k7)
  have or7 := OwnOf.keep0 or (k6.trans k7)
  have ox7 := ox.keep0 k7
  obtain ⟨hp1, hp2⟩ := piecesL_len (b := b) (l := at_)
  have hj := joinL_len (l := ls)
  refine (refSame_spec vq vr _ _ (by omega) (by omega) _ (Obs.sl oq7) (Obs.sl or7)).mono ?_
  rintro r H8 ⟨rfl, rfl⟩
  simp only [go_sem, Nat.reduceLT, Nat.reduceEqDiff, Nat.reduceAdd, Nat.reduceMul, Nat.reduceSub, Nat.reduceLeDiff, Int.reduceToNat, Int.reduceNeg, Int.reduceLT, Int.reduceLE, Int.reduceEq, reduceCtorEq, eq_self, ox7.bs.str se22 tk9 tk5, oy.bs.str se22 tk9 tk5]
  -- written over
  rename_i H8
  have k37 := ((k4.trans k5).trans k6).trans k7
  obtain ⟨ns, hns⟩ : ∃ ns, ns = (piecesL b at_).1.map List.length := ⟨_, rfl⟩
  have hns1 : ns.length ≤ 257 := by rw [hns, List.length_map]; exact hp1
  have hns2 : ∀ n ∈ ns, n ≤ 140737488355328 := fun n hn => by
    rw [hns] at hn; obtain ⟨x, hx, rfl⟩ := List.mem_map.1 hn; have := hp2 x hx; omega
  have hwr : SlOf (Rp.wr H3.length) H8 vq ns := hns ▸ Obs.wr oq7
  obtain ⟨n, hn⟩ : ∃ n, n = (joinL ls).1.length := ⟨_, rfl⟩
  have hnn : n ≤ 16384 := hn ▸ hj
  obtain ⟨EX, hEX⟩ : ∃ EX : Heap → Prop, EX = fun G => WrB H3.length G vx n := ⟨_, rfl⟩
  have hex : EX H8 := by rw [hEX]; exact hn ▸ (WrB.of_ob ox7).mono (by have := k4.len; have := k5.len; omega)
  have ovE : ∀ {G G' b j}, Over H3.length G G' b j → EX G → EX G' := fun ov h => by rw [hEX] at h ⊢; exact WrB.over h ov
  have hkk : Keep none H3 H8 := k37
  clear hns hn ox7 or7 oq7 oy ox or oq oo5
  refine WX_loopS [0, 1, 2, 7, 8, 9, 10, 14] (fun q fr' H' => ∃ i : Nat, q = ns.length - i ∧ i ≤ ns.length ∧ fr'.get 18 = .int .i64 i ∧ SlOf (Rp.wr H3.length) H' vq ns ∧ EX H' ∧ Keep none H3 H') ns.length ⟨0, rfl, Nat.zero_le _, by simp only [go_sem, Nat.reduceLT, Nat.reduceEqDiff, Nat.reduceAdd, Nat.reduceMul, Nat.reduceSub, Nat.reduceLeDiff, Int.reduceToNat, Int.reduceNeg, Int.reduceLT, Int.reduceLE, Int.reduceEq, reduceCtorEq]; rfl, hwr, hex, hkk⟩ ?_
  clear hwr hex hkk
  rintro q fr' H9 A R hA hs hg hR ⟨i, rfl, hi, fi, hwr, hex, hkk⟩
  have s0 := hg 0 (by decide)
  have s1 := hg 1 (by decide)
  have s2 := hg 2 (by decide)
  have s7 := hg 7 (by decide)
  have s8 := hg 8 (by decide)
  have s9 := hg 9 (by decide)
  have s10 := hg 10 (by decide)
  have s14 := hg 14 (by decide)
  simp only [Fr.get_put, Fr.get_init, List.getD_cons_zero, List.getD_cons_succ, Nat.reduceEqDiff, if_true, if_false] at s0 s1 s2 s7 s8 s9 s10 s14
  have al := hwr.alen tk24
  refine wx_sound hT _ ?_
  by_cases hlt : i < ns.length
  · have hlti : (i : Int) < ns.length := by omega
    have hbl := hns2 _ (List.getElem_mem hlt)
    repeat' (first | simp only [go_sem, Nat.reduceLT, Nat.reduceEqDiff, Nat.reduceAdd, Nat.reduceMul, Nat.reduceSub, Nat.reduceLeDiff, Int.reduceToNat, Int.reduceNeg, Int.reduceLT, Int.reduceLE, Int.reduceEq, reduceCtorEq, Int.natCast_zero, Int.natCast_one, Int.cast_ofNat_Int, Bool.not_not, false_eq_decide, true_eq_decide, hread0, hreadk, read_cons0, read_consk, astore_h0, astore_hk, hget0, hgetk, hset0, hsetk, hlen, hcat, Nat.add_assoc, Nat.add_zero, Nat.zero_add, List.length_append, and_true, true_and, AV.flat, *, -hK, -hns1] | with_reducible refine IfB_dec (fun h => ?_) (fun h => ?_) | with_reducible refine Guard_dec (fun h => ?_) (fun h => ?_) | with_reducible refine Guard_ndec (fun h => ?_) (fun h => ?_) | with_reducible refine Guard_not (fun h => ?_) (fun h => ?_) | with_reducible refine IfB_ndec (fun h => ?_) (fun h => ?_) | with_reducible refine IfB_not (fun h => ?_) (fun h => ?_) | with_reducible refine Guard_split (fun h => ?_) (fun h => ?_) | with_reducible refine IfB_split (fun h => ?_) (fun h => ?_))
    have hA0 := hA
    have o10 := s10
    refine WX_loopS [10, 18] (fun q fr2 H2 => ∃ j : Nat, q = ns[i] - j ∧ j ≤ ns[i] ∧ fr2.get 19 = .int .i64 j ∧ SlOf (Rp.wr H3.length) H2 vq ns ∧ EX H2 ∧ Keep none H3 H2 ∧ A fr2) ns[i] ⟨0, rfl, Nat.zero_le _, by simp only [go_sem, Nat.reduceLT, Nat.reduceEqDiff, Nat.reduceAdd, Nat.reduceMul, Nat.reduceSub, Nat.reduceLeDiff, Int.reduceToNat, Int.reduceNeg, Int.reduceLT, Int.reduceLE, Int.reduceEq, reduceCtorEq]; rfl, hwr, hex, hkk, by (repeat (first | exact hs | refine hA _ _ _ (by decide) ?_))⟩ ?_
    clear hg hs hA hwr hex hkk al
    rintro q fr2 H2 A2 R2 hA hs hg hR2 ⟨j, rfl, hj, fk, hwr, hex, hkk, hAf⟩
    have s10 := hg 10 (by decide)
    have s18 := hg 18 (by decide)
    simp only [Fr.get_put, Fr.get_init, List.getD_cons_zero, List.getD_cons_succ, Nat.reduceEqDiff, if_true, if_false] at s10 s18
    rw [o10] at s10
    rw [fi] at s18
    obtain ⟨b, o, c, e1, e2, ⟨w, rfl, hwb⟩, _⟩ := hwr.at_ se24 hlt (k := .i64) (z := i) rfl
    have e2r : H2.read b o 1 = some [w] := e2
    have al := hwb.alen tk22
    refine wx_sound hT _ ?_
    by_cases hlt2 : j < ns[i]
    · obtain ⟨b2, o2, x, e3, e4, e5, hst⟩ := hwb.at_ se22 (te := 5) (by simp [asize, td5]) hlt2 (k := .i64) (z := j) rfl
      obtain ⟨H3, s2, ov⟩ := hst (x + 1) _ rfl
      have hltj : (j : Int) < ns[i] := by omega
      have ui := u8_inc x
      have ji : IntKind.i64.wrap ((j : Int) + 1) = ((j + 1 : Nat) : Int) := by rw [IntKind.wrap_i64]; omega
      repeat' (first | simp only [go_sem, Nat.reduceLT, Nat.reduceEqDiff, Nat.reduceAdd, Nat.reduceMul, Nat.reduceSub, Nat.reduceLeDiff, Int.reduceToNat, Int.reduceNeg, Int.reduceLT, Int.reduceLE, Int.reduceEq, reduceCtorEq, Int.natCast_zero, Int.natCast_one, Int.cast_ofNat_Int, Bool.not_not, false_eq_decide, true_eq_decide, hread0, hreadk, read_cons0, read_consk, astore_h0, astore_hk, hget0, hgetk, hset0, hsetk, hlen, hcat, Nat.add_assoc, Nat.add_zero, Nat.zero_add, List.length_append, and_true, true_and, AV.flat, *, -hK, -hns1, -e5, -hst, -ov] | with_reducible refine IfB_dec (fun h => ?_) (fun h => ?_) | with_reducible refine Guard_dec (fun h => ?_) (fun h => ?_) | with_reducible refine Guard_ndec (fun h => ?_) (fun h => ?_) | with_reducible refine Guard_not (fun h => ?_) (fun h => ?_) | with_reducible refine IfB_ndec (fun h => ?_) (fun h => ?_) | with_reducible refine IfB_not (fun h => ?_) (fun h => ?_) | with_reducible refine Guard_split (fun h => ?_) (fun h => ?_) | with_reducible refine IfB_split (fun h => ?_) (fun h => ?_))
      refine WX_rows hT hmix [(0, none), (1, none), (2, none), (3, none), (4, none), (5, none), (6, none), (7, none), (8, none), (9, none), (10, none), (11, none), (12, none), (13, none), (14, some [true, true, true, true, true, true, true, true, true, true, true, true, true, true])] (by kernel_rfl) ?_
      repeat' (first | simp only [go_sem, Nat.reduceLT, Nat.reduceEqDiff, Nat.reduceAdd, Nat.reduceMul, Nat.reduceSub, Nat.reduceLeDiff, Int.reduceToNat, Int.reduceNeg, Int.reduceLT, Int.reduceLE, Int.reduceEq, reduceCtorEq, Int.natCast_zero, Int.natCast_one, Int.cast_ofNat_Int, Bool.not_not, false_eq_decide, true_eq_decide, hread0, hreadk, read_cons0, read_consk, astore_h0, astore_hk, hget0, hgetk, hset0, hsetk, hlen, hcat, Nat.add_assoc, Nat.add_zero, Nat.zero_add, List.length_append, and_true, true_and, AV.flat, *, -hK, -hns1, -e5, -hst, -ov] | with_reducible refine IfB_dec (fun h => ?_) (fun h => ?_) | with_reducible refine Guard_dec (fun h => ?_) (fun h => ?_) | with_reducible refine Guard_ndec (fun h => ?_) (fun h => ?_) | with_reducible refine Guard_not (fun h => ?_) (fun h => ?_) | with_reducible refine IfB_ndec (fun h => ?_) (fun h => ?_) | with_reducible refine IfB_not (fun h => ?_) (fun h => ?_) | with_reducible refine Guard_split (fun h => ?_) (fun h => ?_) | with_reducible refine IfB_split (fun h => ?_) (fun h => ?_))
      exact hR2 _ _ (by (repeat (first | exact hs | refine hA _ _ _ (by decide) ?_))) (ns[i] - (j + 1)) (by omega) ⟨j + 1, rfl, by omega, by simp only [go_sem, Nat.reduceLT, Nat.reduceEqDiff, Nat.reduceAdd, Nat.reduceMul, Nat.reduceSub, Nat.reduceLeDiff, Int.reduceToNat, Int.reduceNeg, Int.reduceLT, Int.reduceLE, Int.reduceEq, reduceCtorEq], hwr.over ov, ovE ov hex, hkk.over ov (Nat.le_refl _), by (repeat (first | exact hAf | refine hA0 _ _ _ (by decide) ?_))⟩
    · have hltj : ¬ (j : Int) < ns[i] := by omega
      have ii : IntKind.i64.wrap ((i : Int) + 1) = ((i + 1 : Nat) : Int) := by rw [IntKind.wrap_i64]; omega
      repeat' (first | simp only [go_sem, Nat.reduceLT, Nat.reduceEqDiff, Nat.reduceAdd, Nat.reduceMul, Nat.reduceSub, Nat.reduceLeDiff, Int.reduceToNat, Int.reduceNeg, Int.reduceLT, Int.reduceLE, Int.reduceEq, reduceCtorEq, Int.natCast_zero, Int.natCast_one, Int.cast_ofNat_Int, Bool.not_not, false_eq_decide, true_eq_decide, hread0, hreadk, read_cons0, read_consk, astore_h0, astore_hk, hget0, hgetk, hset0, hsetk, hlen, hcat, Nat.add_assoc, Nat.add_zero, Nat.zero_add, List.length_append, and_true, true_and, AV.flat, *, -hK, -hns1] | with_reducible refine IfB_dec (fun h => ?_) (fun h => ?_) | with_reducible refine Guard_dec (fun h => ?_) (fun h => ?_) | with_reducible refine Guard_ndec (fun h => ?_) (fun h => ?_) | with_reducible refine Guard_not (fun h => ?_) (fun h => ?_) | with_reducible refine IfB_ndec (fun h => ?_) (fun h => ?_) | with_reducible refine IfB_not (fun h => ?_) (fun h => ?_) | with_reducible refine Guard_split (fun h => ?_) (fun h => ?_) | with_reducible refine IfB_split (fun h => ?_) (fun h => ?_))
      exact hR _ _ (by (repeat (first | exact hAf | refine hA0 _ _ _ (by decide) ?_))) (ns.length - (i + 1)) (by omega) ⟨i + 1, rfl, by omega, by simp only [go_sem, Nat.reduceLT, Nat.reduceEqDiff, Nat.reduceAdd, Nat.reduceMul, Nat.reduceSub, Nat.reduceLeDiff, Int.reduceToNat, Int.reduceNeg, Int.reduceLT, Int.reduceLE, Int.reduceEq, reduceCtorEq], hwr, hex, hkk⟩
  have hlti : ¬ (i : Int) < ns.length := by omega
  repeat' (first | simp only [go_sem, Nat.reduceLT, Nat.reduceEqDiff, Nat.reduceAdd, Nat.reduceMul, Nat.reduceSub, Nat.reduceLeDiff, Int.reduceToNat, Int.reduceNeg, Int.reduceLT, Int.reduceLE, Int.reduceEq, reduceCtorEq, Int.natCast_zero, Int.natCast_one, Int.cast_ofNat_Int, Bool.not_not, false_eq_decide, true_eq_decide, hread0, hreadk, read_cons0, read_consk, astore_h0, astore_hk, hget0, hgetk, hset0, hsetk, hlen, hcat, Nat.add_assoc, Nat.add_zero, Nat.zero_add, List.length_append, and_true, true_and, AV.flat, *, -hK, -hns1] | with_reducible refine IfB_dec (fun h => ?_) (fun h => ?_) | with_reducible refine Guard_dec (fun h => ?_) (fun h => ?_) | with_reducible refine Guard_ndec (fun h => ?_) (fun h => ?_) | with_reducible refine Guard_not (fun h => ?_) (fun h => ?_) | with_reducible refine IfB_ndec (fun h => ?_) (fun h => ?_) | with_reducible refine IfB_not (fun h => ?_) (fun h => ?_) | with_reducible refine Guard_split (fun h => ?_) (fun h => ?_) | with_reducible refine IfB_split (fun h => ?_) (fun h => ?_))
  clear hlt hlti hns1 hns2 fi hwr hR hA hs hg al hi
  rw [hEX] at hex
  clear hEX ovE
  have hwb := hex
  clear hex
  refine WX_loopS [0, 1, 2, 7, 8, 9, 14] (fun q fr' H' => ∃ j : Nat, q = n - j ∧ j ≤ n ∧ fr'.get 20 = .int .i64 j ∧ WrB H3.length H' vx n ∧ Keep none H3 H') n ⟨0, rfl, Nat.zero_le _, by simp only [go_sem, Nat.reduceLT, Nat.reduceEqDiff, Nat.reduceAdd, Nat.reduceMul, Nat.reduceSub, Nat.reduceLeDiff, Int.reduceToNat, Int.reduceNeg, Int.reduceLT, Int.reduceLE, Int.reduceEq, reduceCtorEq]; rfl, hwb, hkk⟩ ?_
  clear hwb hkk
  rintro q fr' H10 A R hA hs hg hR ⟨j, rfl, hj, fk, hwb, hkk⟩
  have s0 := hg 0 (by decide)
  have s1 := hg 1 (by decide)
  have s2 := hg 2 (by decide)
  have s7 := hg 7 (by decide)
  have s8 := hg 8 (by decide)
  have s9 := hg 9 (by decide)
  have s14 := hg 14 (by decide)
  simp only [Fr.get_put, Fr.get_init, List.getD_cons_zero, List.getD_cons_succ, Nat.reduceEqDiff, if_true, if_false] at s0 s1 s2 s7 s8 s9 s14
  have al := hwb.alen tk22
  refine wx_sound hT _ ?_
  by_cases hlt2 : j < n
  · obtain ⟨b2, o2, x, e3, e4, e5, hst⟩ := hwb.at_ se22 (te := 5) (by simp [asize, td5]) hlt2 (k := .i64) (z := j) rfl
    obtain ⟨H3, s2, ov⟩ := hst (x + 1) _ rfl
    have hltj : (j : Int) < n := by omega
    have ui := u8_inc x
    have ji : IntKind.i64.wrap ((j : Int) + 1) = ((j + 1 : Nat) : Int) := by rw [IntKind.wrap_i64]; omega
    repeat' (first | simp only [go_sem, Nat.reduceLT, Nat.reduceEqDiff, Nat.reduceAdd, Nat.reduceMul, Nat.reduceSub, Nat.reduceLeDiff, Int.reduceToNat, Int.reduceNeg, Int.reduceLT, Int.reduceLE, Int.reduceEq, reduceCtorEq, Int.natCast_zero, Int.natCast_one, Int.cast_ofNat_Int, Bool.not_not, false_eq_decide, true_eq_decide, hread0, hreadk, read_cons0, read_consk, astore_h0, astore_hk, hget0, hgetk, hset0, hsetk, hlen, hcat, Nat.add_assoc, Nat.add_zero, Nat.zero_add, List.length_append, and_true, true_and, AV.flat, *, -hK, -e5, -hst, -ov] | with_reducible refine IfB_dec (fun h => ?_) (fun h => ?_) | with_reducible refine Guard_dec (fun h => ?_) (fun h => ?_) | with_reducible refine Guard_ndec (fun h => ?_) (fun h => ?_) | with_reducible refine Guard_not (fun h => ?_) (fun h => ?_) | with_reducible refine IfB_ndec (fun h => ?_) (fun h => ?_) | with_reducible refine IfB_not (fun h => ?_) (fun h => ?_) | with_reducible refine Guard_split (fun h => ?_) (fun h => ?_) | with_reducible refine IfB_split (fun h => ?_) (fun h => ?_))
    exact hR _ _ (by (repeat (first | exact hs | refine hA _ _ _ (by decide) ?_))) (n - (j + 1)) (by omega) ⟨j + 1, rfl, by omega, by simp only [go_sem, Nat.reduceLT, Nat.reduceEqDiff, Nat.reduceAdd, Nat.reduceMul, Nat.reduceSub, Nat.reduceLeDiff, Int.reduceToNat, Int.reduceNeg, Int.reduceLT, Int.reduceLE, Int.reduceEq, reduceCtorEq], hwb.over ov, hkk.over ov (Nat.le_refl _)⟩
  have hltj : ¬ (j : Int) < n := by omega
  repeat' (first | simp only [go_sem, Nat.reduceLT, Nat.reduceEqDiff, Nat.reduceAdd, Nat.reduceMul, Nat.reduceSub, Nat.reduceLeDiff, Int.reduceToNat, Int.reduceNeg, Int.reduceLT, Int.reduceLE, Int.reduceEq, reduceCtorEq, Int.natCast_zero, Int.natCast_one, Int.cast_ofNat_Int, Bool.not_not, false_eq_decide, true_eq_decide, hread0, hreadk, read_cons0, read_consk, astore_h0, astore_hk, hget0, hgetk, hset0, hsetk, hlen, hcat, Nat.add_assoc, Nat.add_zero, Nat.zero_add, List.length_append, and_true, true_and, AV.flat, *, -hK] | with_reducible refine IfB_dec (fun h => ?_) (fun h => ?_) | with_reducible refine Guard_dec (fun h => ?_) (fun h => ?_) | with_reducible refine Guard_ndec (fun h => ?_) (fun h => ?_) | with_reducible refine Guard_not (fun h => ?_) (fun h => ?_) | with_reducible refine IfB_ndec (fun h => ?_) (fun h => ?_) | with_reducible refine IfB_not (fun h => ?_) (fun h => ?_) | with_reducible refine Guard_split (fun h => ?_) (fun h => ?_) | with_reducible refine IfB_split (fun h => ?_) (fun h => ?_))
  clear fk hwb hlt2 hltj hj hR hA hs hg al
  have ipx := Vs.keep0 ip3 hkk
  have hax := Vs.keep0 ha (k13.trans hkk)
  refine WX_loopS [0, 1, 2, 7, 8, 9] (fun q fr' H' => ∃ j : Nat, q = at_.length - j ∧ j ≤ at_.length ∧ fr'.get 21 = .int .i64 j ∧ H' = H10) at_.length ⟨0, rfl, Nat.zero_le _, by simp only [go_sem, Nat.reduceLT, Nat.reduceEqDiff, Nat.reduceAdd, Nat.reduceMul, Nat.reduceSub, Nat.reduceLeDiff, Int.reduceToNat, Int.reduceNeg, Int.reduceLT, Int.reduceLE, Int.reduceEq, reduceCtorEq]; rfl, rfl⟩ ?_
  rintro q fr' H' A R hA hs hg hR ⟨j, rfl, hj, fk, rfl⟩
  have s0 := hg 0 (by decide)
  have s1 := hg 1 (by decide)
  have s2 := hg 2 (by decide)
  have s7 := hg 7 (by decide)
  have s8 := hg 8 (by decide)
  have s9 := hg 9 (by decide)
  simp only [Fr.get_put, Fr.get_init, List.getD_cons_zero, List.getD_cons_succ, Nat.reduceEqDiff, if_true, if_false] at s0 s1 s2 s7 s8 s9
  have al := Vs.alen hax tk23
  refine wx_sound hT _ ?_
  by_cases hlt2 : j < at_.length
  · have hltj : (j : Int) < at_.length := by omega
    have ji : IntKind.i64.wrap ((j : Int) + 1) = ((j + 1 : Nat) : Int) := by rw [IntKind.wrap_i64]; omega
    obtain ⟨b1, o1, e1, e2, -⟩ := Vs.at1 (f := AV.int .i64) ipx se23 hlt2 (k := .i64) (z := j) rfl
    obtain ⟨b2, o2, e3, e4, -⟩ := Vs.at1 (f := AV.int .i64) hax se23 hlt2 (k := .i64) (z := j) rfl
    repeat' (first | simp only [go_sem, Nat.reduceLT, Nat.reduceEqDiff, Nat.reduceAdd, Nat.reduceMul, Nat.reduceSub, Nat.reduceLeDiff, Int.reduceToNat, Int.reduceNeg, Int.reduceLT, Int.reduceLE, Int.reduceEq, reduceCtorEq, Int.natCast_zero, Int.natCast_one, Int.cast_ofNat_Int, Bool.not_not, false_eq_decide, true_eq_decide, hread0, hreadk, read_cons0, read_consk, astore_h0, astore_hk, hget0, hgetk, hset0, hsetk, hlen, hcat, Nat.add_assoc, Nat.add_zero, Nat.zero_add, List.length_append, and_true, true_and, AV.flat, *, -hK] | with_reducible refine IfB_dec (fun h => ?_) (fun h => ?_) | with_reducible refine Guard_dec (fun h => ?_) (fun h => ?_) | with_reducible refine Guard_ndec (fun h => ?_) (fun h => ?_) | with_reducible refine Guard_not (fun h => ?_) (fun h => ?_) | with_reducible refine IfB_ndec (fun h => ?_) (fun h => ?_) | with_reducible refine IfB_not (fun h => ?_) (fun h => ?_) | with_reducible refine Guard_split (fun h => ?_) (fun h => ?_) | with_reducible refine IfB_split (fun h => ?_) (fun h => ?_))
    refine WX_rows hT hmix [(0, none), (1, none), (2, none), (3, none), (4, none), (5, none), (6, none), (7, none), (8, none)] (by kernel_rfl) ?_
    repeat' (first | simp only [go_sem, Nat.reduceLT, Nat.reduceEqDiff, Nat.reduceAdd, Nat.reduceMul, Nat.reduceSub, Nat.reduceLeDiff, Int.reduceToNat, Int.reduceNeg, Int.reduceLT, Int.reduceLE, Int.reduceEq, reduceCtorEq, Int.natCast_zero, Int.natCast_one, Int.cast_ofNat_Int, Bool.not_not, false_eq_decide, true_eq_decide, hread0, hreadk, read_cons0, read_consk, astore_h0, astore_hk, hget0, hgetk, hset0, hsetk, hlen, hcat, Nat.add_assoc, Nat.add_zero, Nat.zero_add, List.length_append, and_true, true_and, AV.flat, *, -hK] | with_reducible refine IfB_dec (fun h => ?_) (fun h => ?_) | with_reducible refine Guard_dec (fun h => ?_) (fun h => ?_) | with_reducible refine Guard_ndec (fun h => ?_) (fun h => ?_) | with_reducible refine Guard_not (fun h => ?_) (fun h => ?_) | with_reducible refine IfB_ndec (fun h => ?_) (fun h => ?_) | with_reducible refine IfB_not (fun h => ?_) (fun h => ?_) | with_reducible refine Guard_split (fun h => ?_) (fun h => ?_) | with_reducible refine IfB_split (fun h => ?_) (fun h => ?_))
    exact hR _ _ (by (repeat (first | exact hs | refine hA _ _ _ (by decide) ?_))) (at_.length - (j + 1)) (by omega) ⟨j + 1, rfl, by omega, by simp only [go_sem, Nat.reduceLT, Nat.reduceEqDiff, Nat.reduceAdd, Nat.reduceMul, Nat.reduceSub, Nat.reduceLeDiff, Int.reduceToNat, Int.reduceNeg, Int.reduceLT, Int.reduceLE, Int.reduceEq, reduceCtorEq], rfl⟩
  have hltj : ¬ (j : Int) < at_.length := by omega
  have e1 := (oi3.keep0 hkk).bs.str se22 tk9 tk5
  have e2 := (hb.keep0 (k13.trans hkk)).str se22 tk9 tk5
  have sm := refSame_spec vo a2 _ _ (by omega) (by omega) _ (Obs.sl (OwnOf.keep0 oo hkk)) (hl.keep0 (k13.trans hkk))
  repeat' (first | simp only [go_sem, Nat.reduceLT, Nat.reduceEqDiff, Nat.reduceAdd, Nat.reduceMul, Nat.reduceSub, Nat.reduceLeDiff, Int.reduceToNat, Int.reduceNeg, Int.reduceLT, Int.reduceLE, Int.reduceEq, reduceCtorEq, Int.natCast_zero, Int.natCast_one, Int.cast_ofNat_Int, Bool.not_not, false_eq_decide, true_eq_decide, hread0, hreadk, read_cons0, read_consk, astore_h0, astore_hk, hget0, hgetk, hset0, hsetk, hlen, hcat, Nat.add_assoc, Nat.add_zero, Nat.zero_add, List.length_append, and_true, true_and, AV.flat, *, -hK] | refine WC.call (sm) ?_ | with_reducible refine IfB_dec (fun h => ?_) (fun h => ?_) | with_reducible refine Guard_dec (fun h => ?_) (fun h => ?_) | with_reducible refine Guard_ndec (fun h => ?_) (fun h => ?_) | with_reducible refine Guard_not (fun h => ?_) (fun h => ?_) | with_reducible refine IfB_ndec (fun h => ?_) (fun h => ?_) | with_reducible refine IfB_not (fun h => ?_) (fun h => ?_) | with_reducible refine Guard_split (fun h => ?_) (fun h => ?_) | with_reducible refine IfB_split (fun h => ?_) (fun h => ?_))
  exact hK _ _ rfl
end Go.Proofs.Ytphenbpognaddaa
