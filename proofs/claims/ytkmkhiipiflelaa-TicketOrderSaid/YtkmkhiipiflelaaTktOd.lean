import Derived.Test.YtkmkhiipiflelaaTktOs
import Derived.Test.YtkmkhiipiflelaaTicketV
import Derived.Test.YtkmkhiipiflelaaPiYb
set_option linter.unusedSimpArgs false
set_option linter.unusedVariables false
set_option maxRecDepth 100000
set_option maxHeartbeats 4000000
namespace Go.Proofs.Ytkmkhiipiflelaa
open Go Go.Proofs Go.Proofs.PI
/-! ### the stage's theorem -/
theorem u8_cells (x : UInt8) : Enc.u8.cells x = [.int .u8 x.toNat] := rfl
structure OrdI (n : Nat) (P L R : List Tkt) : Prop where
  perm : (L ++ R).Perm P
  all : RemI n P.length P
  rem : RemI n P.length R
  ord1 : L.Pairwise fun a u => u.num < a.num → ∀ j ∈ shardsL a n, j ∉ shardsL u n
  ord2 : ∀ a ∈ L, ∀ u ∈ R, u.num < a.num → ∀ j ∈ shardsL a n, j ∉ shardsL u n
theorem filter_perm {R : List Tkt} (hn : R.Nodup) {t : Tkt} (ht : t ∈ R) : R.Perm (t :: R.filter fun x => decide (x ≠ t)) := by
  have h := hn.erase_eq_filter t
  have e : R.filter (fun x => decide (x ≠ t)) = R.erase t := by
    rw [h]; exact List.filter_congr fun x _ => by rw [Bool.eq_iff_iff]; simp
  rw [e]
  exact List.perm_cons_erase ht
theorem OrdI.step {n : Nat} {P L R : List Tkt} (o : OrdI n P L R) {t : Tkt} (ht : t ∈ R) (h : ∀ u ∈ R, u.num < t.num → ∀ j ∈ shardsL u n, j ∉ shardsL t n) : OrdI n P (L ++ [t]) (R.filter fun x => decide (x ≠ t)) := by
  refine ⟨?_, o.all, o.rem.sub List.filter_sublist, ?_, fun a ha u hu hlt j hj hju => ?_⟩
  · rw [List.append_assoc]
    exact ((filter_perm o.rem.nodup ht).append_left L).symm.trans o.perm
  · rw [List.pairwise_append]
    exact ⟨o.ord1, by simp, fun a ha b hb => by rw [List.mem_singleton.1 hb]; exact o.ord2 a ha t ht⟩
  · have hu2 := (List.mem_filter.1 hu).1
    rcases List.mem_append.1 ha with ha | ha
    · exact o.ord2 a ha u hu2 hlt j hj hju
    · rw [List.mem_singleton.1 ha] at hlt hj
      exact h u hu2 hlt j hju hj
theorem OrdI.start {n : Nat} {P : List Tkt} (h : RemI n P.length P) : OrdI n P [] P :=
  ⟨List.Perm.refl _, h, h, .nil, fun a ha => by cases ha⟩
theorem boxesOf_none (n : Nat) : boxesOf n [] = List.replicate n [] := by
  refine (boxesOf_ext (by simp) fun j hj => ?_).symm
  rw [List.getElem?_replicate, if_pos hj, List.filter_nil]
theorem OrdI.left {n : Nat} {P L R : List Tkt} (o : OrdI n P L R) : L.length + R.length = P.length := by
  have := o.perm.length_eq; rw [List.length_append] at this; exact this
theorem OrdI.mem {n : Nat} {P L R : List Tkt} (o : OrdI n P L R) {t : Tkt} (ht : t ∈ L) : t ∈ P := o.perm.mem_iff.1 (List.mem_append_left _ ht)
theorem OrdI.count {n : Nat} {P L : List Tkt} (o : OrdI n P L []) {x : Tkt} (hx : x ∈ P) : L.count x = 1 := by
  have h := o.perm.count_eq x
  rw [List.append_nil] at h
  rw [h, o.all.nodup.count, if_pos hx]
theorem inp_bytes {n : Nat} {a : AV} (h : InpPV T (n + 2) 66 a) : ∃ b : List UInt8, a = Enc.u8.lst b ∧ b.length ≤ 140737488355328 := by
  obtain ⟨xs, rfl, -, -, hd⟩ := InpPV.slice (E := Enc.u8) (Pr := fun _ => True) tk66 (fun x hx => by obtain ⟨v, rfl, hv⟩ := InpP.int tk5 hx; obtain ⟨b, rfl⟩ := u8_wf hv; exact ⟨b, rfl, trivial⟩) h
  exact ⟨xs, rfl, by have := hd _ td5; unfold reachBytes at this; simp at this; omega⟩
theorem ticketOrder_walk (avs : List AV) (h : InpPAll T 9 [3, 31, 66] avs) : WC Try.prog 6 avs [] fun v _ => v = .bool true := by
  obtain ⟨a0, _, rfl, h0, h⟩ := h.cons
  obtain ⟨a1, _, rfl, h1, h⟩ := h.cons
  obtain ⟨a2, _, rfl, h2, h⟩ := h.cons
  obtain rfl := h.nil
  obtain ⟨n, rfl, -⟩ := InpPV.int tk3 h0
  obtain ⟨l, rfl, hlf, -, hd⟩ := InpPV.slice (E := tktE) (Pr := tFit) tk31 (fun x hx => inp_tkt hx) h1
  obtain ⟨sc, rfl, hsc⟩ := inp_bytes h2
  have hlb : l.length ≤ 140737488355328 := by have := hd _ td38; unfold reachBytes at this; simp at this; omega
  clear h0 h1 h2 h hd
  generalize ([] : Heap) = H
  refine WC_of_K fun K hK => ?_
  have nw := fun J => new_spec n J
  by_cases hn : n < 1 ∨ n > 4
  · rw [show newR n = (que0, 2) by unfold newR; rw [if_pos hn]] at nw
    unfold Que.av que0 at nw
    simp only at nw
    clear hn
    refine WC_of_body hT Try.func6 rfl (by simp [Try.f6]) (by simp [Try.f6]) (wx_sound hT _ ?_)
    simp only [Try.f6]
    repeat' (first | simp only [go_sem, Nat.reduceLT, Nat.reduceEqDiff, Nat.reduceAdd, Nat.reduceMul, Nat.reduceSub, Nat.reduceLeDiff, Int.reduceToNat, Int.reduceNeg, Int.reduceLT, Int.reduceLE, Int.reduceEq, reduceCtorEq, Int.natCast_zero, Int.natCast_one, Int.cast_ofNat_Int, Bool.not_not, false_eq_decide, true_eq_decide, hread0, hreadk, read_cons0, read_consk, astore_h0, astore_hk, hget0, hgetk, hset0, hsetk, hlen, hcat, Nat.add_assoc, Nat.add_zero, Nat.zero_add, List.length_append, and_true, true_and, AV.flat, *, -hK, -nw, -hlf] | refine WC.call (alive_spec _) ?_ | refine WC.call (nw _) ?_ | with_reducible refine IfB_dec (fun h => ?_) (fun h => ?_) | with_reducible refine Guard_dec (fun h => ?_) (fun h => ?_) | with_reducible refine Guard_ndec (fun h => ?_) (fun h => ?_) | with_reducible refine Guard_not (fun h => ?_) (fun h => ?_) | with_reducible refine IfB_ndec (fun h => ?_) (fun h => ?_) | with_reducible refine IfB_not (fun h => ?_) (fun h => ?_) | with_reducible refine Guard_split (fun h => ?_) (fun h => ?_) | with_reducible refine IfB_split (fun h => ?_) (fun h => ?_))
    exact hK _ _ rfl
  rw [show newR n = (⟨0, List.replicate n.toNat []⟩, 0) by unfold newR; rw [if_neg hn]] at nw
  obtain ⟨k, rfl⟩ : ∃ k : Nat, n = k := ⟨n.toNat, by omega⟩
  rw [Int.toNat_natCast] at nw
  have hk1 : 1 ≤ k := by omega
  have hk4 : k ≤ 4 := by omega
  clear hn
  rw [← boxesOf_none] at nw
  unfold Que.av at nw
  simp only at nw
  by_cases hl60 : (l.length : Int) > 60
  · skip
    refine WC_of_body hT Try.func6 rfl (by simp [Try.f6]) (by simp [Try.f6]) (wx_sound hT _ ?_)
    simp only [Try.f6]
    repeat' (first | simp only [go_sem, Nat.reduceLT, Nat.reduceEqDiff, Nat.reduceAdd, Nat.reduceMul, Nat.reduceSub, Nat.reduceLeDiff, Int.reduceToNat, Int.reduceNeg, Int.reduceLT, Int.reduceLE, Int.reduceEq, reduceCtorEq, Int.natCast_zero, Int.natCast_one, Int.cast_ofNat_Int, Bool.not_not, false_eq_decide, true_eq_decide, hread0, hreadk, read_cons0, read_consk, astore_h0, astore_hk, hget0, hgetk, hset0, hsetk, hlen, hcat, Nat.add_assoc, Nat.add_zero, Nat.zero_add, List.length_append, and_true, true_and, AV.flat, *, -hK, -nw, -hlf] | refine WC.call (alive_spec _) ?_ | refine WC.call (nw _) ?_ | with_reducible refine IfB_dec (fun h => ?_) (fun h => ?_) | with_reducible refine Guard_dec (fun h => ?_) (fun h => ?_) | with_reducible refine Guard_ndec (fun h => ?_) (fun h => ?_) | with_reducible refine Guard_not (fun h => ?_) (fun h => ?_) | with_reducible refine IfB_ndec (fun h => ?_) (fun h => ?_) | with_reducible refine IfB_not (fun h => ?_) (fun h => ?_) | with_reducible refine Guard_split (fun h => ?_) (fun h => ?_) | with_reducible refine IfB_split (fun h => ?_) (fun h => ?_))
    exact hK _ _ rfl
  by_cases hs1000 : (sc.length : Int) > 1000
  · skip
    refine WC_of_body hT Try.func6 rfl (by simp [Try.f6]) (by simp [Try.f6]) (wx_sound hT _ ?_)
    simp only [Try.f6]
    repeat' (first | simp only [go_sem, Nat.reduceLT, Nat.reduceEqDiff, Nat.reduceAdd, Nat.reduceMul, Nat.reduceSub, Nat.reduceLeDiff, Int.reduceToNat, Int.reduceNeg, Int.reduceLT, Int.reduceLE, Int.reduceEq, reduceCtorEq, Int.natCast_zero, Int.natCast_one, Int.cast_ofNat_Int, Bool.not_not, false_eq_decide, true_eq_decide, hread0, hreadk, read_cons0, read_consk, astore_h0, astore_hk, hget0, hgetk, hset0, hsetk, hlen, hcat, Nat.add_assoc, Nat.add_zero, Nat.zero_add, List.length_append, and_true, true_and, AV.flat, *, -hK, -nw, -hlf] | refine WC.call (alive_spec _) ?_ | refine WC.call (nw _) ?_ | with_reducible refine IfB_dec (fun h => ?_) (fun h => ?_) | with_reducible refine Guard_dec (fun h => ?_) (fun h => ?_) | with_reducible refine Guard_ndec (fun h => ?_) (fun h => ?_) | with_reducible refine Guard_not (fun h => ?_) (fun h => ?_) | with_reducible refine IfB_ndec (fun h => ?_) (fun h => ?_) | with_reducible refine IfB_not (fun h => ?_) (fun h => ?_) | with_reducible refine Guard_split (fun h => ?_) (fun h => ?_) | with_reducible refine IfB_split (fun h => ?_) (fun h => ?_))
    exact hK _ _ rfl
  refine WC_of_body hT Try.func6 rfl (by simp [Try.f6]) (by simp [Try.f6]) (wx_sound hT _ ?_)
  simp only [Try.f6]
  repeat' (first | simp only [go_sem, Nat.reduceLT, Nat.reduceEqDiff, Nat.reduceAdd, Nat.reduceMul, Nat.reduceSub, Nat.reduceLeDiff, Int.reduceToNat, Int.reduceNeg, Int.reduceLT, Int.reduceLE, Int.reduceEq, reduceCtorEq, Int.natCast_zero, Int.natCast_one, Int.cast_ofNat_Int, Bool.not_not, false_eq_decide, true_eq_decide, hread0, hreadk, read_cons0, read_consk, astore_h0, astore_hk, hget0, hgetk, hset0, hsetk, hlen, hcat, Nat.add_assoc, Nat.add_zero, Nat.zero_add, List.length_append, and_true, true_and, AV.flat, *, -hK, -nw, -hlf] | refine WC.call (alive_spec _) ?_ | refine WC.call (nw _) ?_ | with_reducible refine IfB_dec (fun h => ?_) (fun h => ?_) | with_reducible refine Guard_dec (fun h => ?_) (fun h => ?_) | with_reducible refine Guard_ndec (fun h => ?_) (fun h => ?_) | with_reducible refine Guard_not (fun h => ?_) (fun h => ?_) | with_reducible refine IfB_ndec (fun h => ?_) (fun h => ?_) | with_reducible refine IfB_not (fun h => ?_) (fun h => ?_) | with_reducible refine Guard_split (fun h => ?_) (fun h => ?_) | with_reducible refine IfB_split (fun h => ?_) (fun h => ?_))
  have hr0 : RemI k 0 [] := ⟨Nat.le_refl _, .nil, fun t ht => (by cases ht), fun t ht => (by cases ht), fun t ht => (by cases ht)⟩
  refine WX_loopS [0, 1, 2, 8, 11] (fun kn fr' J => ∃ (i : Nat) (P : List Tkt) (w : AV), kn = l.length - i ∧ i ≤ l.length ∧ fr'.get 12 = .int .i64 i ∧ fr'.get 10 = w ∧ OwnE tktE (H.length + 1) J w P ∧ J[H.length]? = some (⟨[.int .i64 (P.length : Nat), boxE.lst (boxesOf k P)], 0, .full⟩ : Blk) ∧ RemI k P.length P ∧ P.length ≤ i) l.length ⟨0, [], .nils, rfl, by omega, by simp only [go_sem, Nat.reduceLT, Nat.reduceEqDiff, Nat.reduceAdd, Nat.reduceMul, Nat.reduceSub, Nat.reduceLeDiff, Int.reduceToNat, Int.reduceNeg, Int.reduceLT, Int.reduceLE, Int.reduceEq, reduceCtorEq]; rfl, by simp only [go_sem, Nat.reduceLT, Nat.reduceEqDiff, Nat.reduceAdd, Nat.reduceMul, Nat.reduceSub, Nat.reduceLeDiff, Int.reduceToNat, Int.reduceNeg, Int.reduceLT, Int.reduceLE, Int.reduceEq, reduceCtorEq], OwnE.nils _ _ _, by rw [hget0]; rfl, hr0, Nat.le_refl _⟩ ?_
  clear nw hr0
  rintro kn fr' J A R hA hs hg hR ⟨i, P, w, rfl, hi, f12, f10, ow, g0, hP, hPi⟩
  have s0 := hg 0 (by decide)
  have s1 := hg 1 (by decide)
  have s2 := hg 2 (by decide)
  have s8 := hg 8 (by decide)
  have s11 := hg 11 (by decide)
  simp only [Fr.get_put, Fr.get_init, List.getD_cons_zero, List.getD_cons_succ, Nat.reduceEqDiff, if_true, if_false] at s0 s1 s2 s8 s11
  have hwo := ow.one
  have hJl := (List.getElem?_eq_some_iff.1 g0).1
  by_cases hlt : i < l.length
  · refine wx_sound hT _ ?_
    have i1 : (i : Int) < l.length := by omega
    have e3 := inc_id hlt hlb
    have e1 := at_enc (E := tktE) (T := T) (k := .i64) se31 hlt rfl
    rw [tktE_cells] at e1
    have hft := hlf _ (List.getElem_mem hlt)
    have lg := fun J => long_spec l[i].cmd hft J
    have back : ∀ fr2 J2 P2 w2, A fr2 → fr2.get 12 = .int .i64 ((i + 1 : Nat) : Int) → fr2.get 10 = w2 → OwnE tktE (H.length + 1) J2 w2 P2 → J2[H.length]? = some (⟨[.int .i64 (P2.length : Nat), boxE.lst (boxesOf k P2)], 0, .full⟩ : Blk) → RemI k P2.length P2 → P2.length ≤ i + 1 → R fr2 J2 := fun fr2 J2 P2 w2 ha q1 q2 q3 q4 q5 q6 => hR fr2 J2 ha (l.length - (i + 1)) (by omega) ⟨i + 1, P2, w2, rfl, by omega, q1, q2, q3, q4, q5, q6⟩
    clear hR hlf
    generalize l[i] = t at *
    unfold Cmd.av at lg
    repeat' (first | simp only [go_sem, Nat.reduceLT, Nat.reduceEqDiff, Nat.reduceAdd, Nat.reduceMul, Nat.reduceSub, Nat.reduceLeDiff, Int.reduceToNat, Int.reduceNeg, Int.reduceLT, Int.reduceLE, Int.reduceEq, reduceCtorEq, Int.natCast_zero, Int.natCast_one, Int.cast_ofNat_Int, Bool.not_not, false_eq_decide, true_eq_decide, hread0, hreadk, read_cons0, read_consk, astore_h0, astore_hk, hget0, hgetk, hset0, hsetk, hlen, hcat, Nat.add_assoc, Nat.add_zero, Nat.zero_add, List.length_append, and_true, true_and, AV.flat, hwo, one_solid hwo, one_cells hwo, *, -hK, -ow, -g0, -hP, -hJl, -back, -lg, -hft] | with_reducible refine IfB_dec (fun h => ?_) (fun h => ?_) | with_reducible refine Guard_dec (fun h => ?_) (fun h => ?_) | with_reducible refine Guard_ndec (fun h => ?_) (fun h => ?_) | with_reducible refine Guard_not (fun h => ?_) (fun h => ?_) | with_reducible refine IfB_ndec (fun h => ?_) (fun h => ?_) | with_reducible refine IfB_not (fun h => ?_) (fun h => ?_) | with_reducible refine Guard_split (fun h => ?_) (fun h => ?_) | with_reducible refine IfB_split (fun h => ?_) (fun h => ?_))
    refine (lg _).mono ?_
    rintro _ J9 ⟨⟨bl, rfl, hbl⟩, hJ9⟩
    replace hJ9 := hJ9.symm
    subst hJ9
    clear lg
    cases bl with
    | true =>
      repeat' (first | simp only [go_sem, Nat.reduceLT, Nat.reduceEqDiff, Nat.reduceAdd, Nat.reduceMul, Nat.reduceSub, Nat.reduceLeDiff, Int.reduceToNat, Int.reduceNeg, Int.reduceLT, Int.reduceLE, Int.reduceEq, reduceCtorEq, Int.natCast_zero, Int.natCast_one, Int.cast_ofNat_Int, Bool.not_not, false_eq_decide, true_eq_decide, hread0, hreadk, read_cons0, read_consk, astore_h0, astore_hk, hget0, hgetk, hset0, hsetk, hlen, hcat, Nat.add_assoc, Nat.add_zero, Nat.zero_add, List.length_append, and_true, true_and, AV.flat, hwo, one_solid hwo, one_cells hwo, *, -hK, -ow, -g0, -hP, -hJl, -back, -hft, -hbl] | with_reducible refine IfB_dec (fun h => ?_) (fun h => ?_) | with_reducible refine Guard_dec (fun h => ?_) (fun h => ?_) | with_reducible refine Guard_ndec (fun h => ?_) (fun h => ?_) | with_reducible refine Guard_not (fun h => ?_) (fun h => ?_) | with_reducible refine IfB_ndec (fun h => ?_) (fun h => ?_) | with_reducible refine IfB_not (fun h => ?_) (fun h => ?_) | with_reducible refine Guard_split (fun h => ?_) (fun h => ?_) | with_reducible refine IfB_split (fun h => ?_) (fun h => ?_))
      exact hK _ _ rfl
    | false =>
    obtain ⟨hf1, -, hf2⟩ := hbl rfl
    have pt := fun J => put_spec (queOf k P.length P) t (queOf_fit hP hk4 (by omega)) (by omega) (fun x hx => by have := hf2 x hx; omega) J
    unfold Que.av Tkt.av at pt
    rw [show (queOf k P.length P).next = ((P.length : Nat) : Int) from rfl, show (queOf k P.length P).bx = boxesOf k P from rfl] at pt
    cases hm : t.mayB with
    | false =>
      rw [queOf_bad hP hk1 hk4 (by omega) hm] at pt
      simp only [que0] at pt
      repeat' (first | simp only [go_sem, Nat.reduceLT, Nat.reduceEqDiff, Nat.reduceAdd, Nat.reduceMul, Nat.reduceSub, Nat.reduceLeDiff, Int.reduceToNat, Int.reduceNeg, Int.reduceLT, Int.reduceLE, Int.reduceEq, reduceCtorEq, Int.natCast_zero, Int.natCast_one, Int.cast_ofNat_Int, Bool.not_not, false_eq_decide, true_eq_decide, hread0, hreadk, read_cons0, read_consk, astore_h0, astore_hk, hget0, hgetk, hset0, hsetk, hlen, hcat, Nat.add_assoc, Nat.add_zero, Nat.zero_add, List.length_append, and_true, true_and, AV.flat, hwo, one_solid hwo, one_cells hwo, g0, get_app g0, read_get g0, read_app g0, *, -hK, -ow, -hP, -hJl, -back, -hft, -pt, -hm, -hf1, -hf2] | with_reducible refine IfB_dec (fun h => ?_) (fun h => ?_) | with_reducible refine Guard_dec (fun h => ?_) (fun h => ?_) | with_reducible refine Guard_ndec (fun h => ?_) (fun h => ?_) | with_reducible refine Guard_not (fun h => ?_) (fun h => ?_) | with_reducible refine IfB_ndec (fun h => ?_) (fun h => ?_) | with_reducible refine IfB_not (fun h => ?_) (fun h => ?_) | with_reducible refine Guard_split (fun h => ?_) (fun h => ?_) | with_reducible refine IfB_split (fun h => ?_) (fun h => ?_))
      refine WX_rows hT hmix [(0, none), (1, none), (2, none), (3, none), (4, none), (10, none), (5, some [false, true, true, true, true, true]), (6, none), (7, none), (8, none), (9, none), (11, some [false, false, true, true, true, true, true, true, true, true, true]), (12, none), (13, none)] (by kernel_rfl) ?_
      repeat' (first | simp only [go_sem, Nat.reduceLT, Nat.reduceEqDiff, Nat.reduceAdd, Nat.reduceMul, Nat.reduceSub, Nat.reduceLeDiff, Int.reduceToNat, Int.reduceNeg, Int.reduceLT, Int.reduceLE, Int.reduceEq, reduceCtorEq, Int.natCast_zero, Int.natCast_one, Int.cast_ofNat_Int, Bool.not_not, false_eq_decide, true_eq_decide, hread0, hreadk, read_cons0, read_consk, astore_h0, astore_hk, hget0, hgetk, hset0, hsetk, hlen, hcat, Nat.add_assoc, Nat.add_zero, Nat.zero_add, List.length_append, and_true, true_and, AV.flat, hwo, one_solid hwo, one_cells hwo, g0, get_app g0, read_get g0, read_app g0, *, -hK, -ow, -hP, -hJl, -back, -hft, -pt, -hm, -hf1, -hf2] | refine WC.call (pt _) ?_ | with_reducible refine IfB_dec (fun h => ?_) (fun h => ?_) | with_reducible refine Guard_dec (fun h => ?_) (fun h => ?_) | with_reducible refine Guard_ndec (fun h => ?_) (fun h => ?_) | with_reducible refine Guard_not (fun h => ?_) (fun h => ?_) | with_reducible refine IfB_ndec (fun h => ?_) (fun h => ?_) | with_reducible refine IfB_not (fun h => ?_) (fun h => ?_) | with_reducible refine Guard_split (fun h => ?_) (fun h => ?_) | with_reducible refine IfB_split (fun h => ?_) (fun h => ?_))
      exact back _ _ P w (by (repeat (first | exact hs | refine hA _ _ _ (by decide) ?_))) (by simp only [go_sem, Nat.reduceLT, Nat.reduceEqDiff, Nat.reduceAdd, Nat.reduceMul, Nat.reduceSub, Nat.reduceLeDiff, Int.reduceToNat, Int.reduceNeg, Int.reduceLT, Int.reduceLE, Int.reduceEq, reduceCtorEq]) (by simp only [go_sem, Nat.reduceLT, Nat.reduceEqDiff, Nat.reduceAdd, Nat.reduceMul, Nat.reduceSub, Nat.reduceLeDiff, Int.reduceToNat, Int.reduceNeg, Int.reduceLT, Int.reduceLE, Int.reduceEq, reduceCtorEq]; exact f10) (ow.keep0 (Keep.app none _ _)) (get_app g0 _) hP (by omega)
    | true =>
    rw [queOf_put hP hk1 hk4 (by omega) hm] at pt
    have hP2 := hP.snoc hm ⟨by omega, fun x hx => by have := hf2 x hx; omega⟩
    rw [show (queOf k (P.length + 1) (P ++ [t.at_ P.length])).next = ((P.length + 1 : Nat) : Int) from rfl, show (queOf k (P.length + 1) (P ++ [t.at_ P.length])).bx = boxesOf k (P ++ [t.at_ P.length]) from rfl] at pt
    generalize hpb : boxesOf k (P ++ [t.at_ P.length]) = pb at *
    repeat' (first | simp only [go_sem, Nat.reduceLT, Nat.reduceEqDiff, Nat.reduceAdd, Nat.reduceMul, Nat.reduceSub, Nat.reduceLeDiff, Int.reduceToNat, Int.reduceNeg, Int.reduceLT, Int.reduceLE, Int.reduceEq, reduceCtorEq, Int.natCast_zero, Int.natCast_one, Int.cast_ofNat_Int, Bool.not_not, false_eq_decide, true_eq_decide, hread0, hreadk, read_cons0, read_consk, astore_h0, astore_hk, hget0, hgetk, hset0, hsetk, hlen, hcat, Nat.add_assoc, Nat.add_zero, Nat.zero_add, List.length_append, and_true, true_and, AV.flat, hwo, one_solid hwo, one_cells hwo, g0, get_app g0, read_get g0, read_app g0, *, -hK, -ow, -hP, -hJl, -back, -hft, -pt, -hm, -hf1, -hf2, -hP2, -hpb] | with_reducible refine IfB_dec (fun h => ?_) (fun h => ?_) | with_reducible refine Guard_dec (fun h => ?_) (fun h => ?_) | with_reducible refine Guard_ndec (fun h => ?_) (fun h => ?_) | with_reducible refine Guard_not (fun h => ?_) (fun h => ?_) | with_reducible refine IfB_ndec (fun h => ?_) (fun h => ?_) | with_reducible refine IfB_not (fun h => ?_) (fun h => ?_) | with_reducible refine Guard_split (fun h => ?_) (fun h => ?_) | with_reducible refine IfB_split (fun h => ?_) (fun h => ?_))
    refine WX_rows hT hmix [(0, none), (1, none), (2, none), (3, none), (4, none), (10, none), (5, some [false, true, true, true, true, true]), (6, none), (7, none), (8, none), (9, none), (11, some [false, false, true, true, true, true, true, true, true, true, true]), (12, none), (13, none)] (by kernel_rfl) ?_
    repeat' (first | simp only [go_sem, Nat.reduceLT, Nat.reduceEqDiff, Nat.reduceAdd, Nat.reduceMul, Nat.reduceSub, Nat.reduceLeDiff, Int.reduceToNat, Int.reduceNeg, Int.reduceLT, Int.reduceLE, Int.reduceEq, reduceCtorEq, Int.natCast_zero, Int.natCast_one, Int.cast_ofNat_Int, Bool.not_not, false_eq_decide, true_eq_decide, hread0, hreadk, read_cons0, read_consk, astore_h0, astore_hk, hget0, hgetk, hset0, hsetk, hlen, hcat, Nat.add_assoc, Nat.add_zero, Nat.zero_add, List.length_append, and_true, true_and, AV.flat, hwo, one_solid hwo, one_cells hwo, g0, get_app g0, read_get g0, read_app g0, *, -hK, -ow, -hP, -hJl, -back, -hft, -pt, -hm, -hf1, -hf2, -hP2, -hpb] | refine WC.call (pt _) ?_ | with_reducible refine IfB_dec (fun h => ?_) (fun h => ?_) | with_reducible refine Guard_dec (fun h => ?_) (fun h => ?_) | with_reducible refine Guard_ndec (fun h => ?_) (fun h => ?_) | with_reducible refine Guard_not (fun h => ?_) (fun h => ?_) | with_reducible refine IfB_ndec (fun h => ?_) (fun h => ?_) | with_reducible refine IfB_not (fun h => ?_) (fun h => ?_) | with_reducible refine Guard_split (fun h => ?_) (fun h => ?_) | with_reducible refine IfB_split (fun h => ?_) (fun h => ?_))
    refine append_own (k := 1) (xs := tktE.cells (t.at_ P.length)) (ow.keep0 (Keep.app none J _)) se31 az38 td38 (asrc_sl tk31 (Vs.sl (vs_at (st := .full) (by rw [hgetk]; rfl) rfl rfl))) rfl (by decide) (by rw [Enc.row_length]; show (P.length * 12 + 12) * 120 ≤ _; omega) (by rw [Enc.row_length]; show P.length * 12 + 12 ≤ _; omega) (by simp; omega) ?_
    intro v2 J3 ov2 k2 hn2
    have hv2 := ov2.one
    have o2 : OwnE tktE (H.length + 1) J3 v2 (P ++ [t.at_ P.length]) := by unfold OwnE; rw [Enc.row_append, Enc.row_one]; exact ov2
    have z0 := k2.get (get_app g0 _) (fun e => by have := ow.ge e; omega)
    have z1 : J3[J.length]? = some (⟨[.int .i64 ((P.length + 1 : Nat) : Int), boxE.lst pb], 0, .full⟩ : Blk) := k2.get (by rw [hget0]; rfl) (fun e => by have := ow.lt e; omega)
    have o3 : OwnE tktE (H.length + 1) (List.set J3 H.length ⟨[.int .i64 ((P.length + 1 : Nat) : Int), boxE.lst pb], 0, .full⟩) v2 (P ++ [t.at_ P.length]) := own_same o2 fun b hb => List.getElem?_set_ne (fun e => by have := o2.ge hb; omega)
    have hJ3 := (List.getElem?_eq_some_iff.1 z0).1
    have hll : (P ++ [t.at_ P.length]).length = P.length + 1 := by simp
    clear k2 hn2 ov2 o2
    repeat' (first | simp only [go_sem, Nat.reduceLT, Nat.reduceEqDiff, Nat.reduceAdd, Nat.reduceMul, Nat.reduceSub, Nat.reduceLeDiff, Int.reduceToNat, Int.reduceNeg, Int.reduceLT, Int.reduceLE, Int.reduceEq, reduceCtorEq, Int.natCast_zero, Int.natCast_one, Int.cast_ofNat_Int, Bool.not_not, false_eq_decide, true_eq_decide, hread0, hreadk, read_cons0, read_consk, astore_h0, astore_hk, hget0, hgetk, hset0, hsetk, hlen, hcat, Nat.add_assoc, Nat.add_zero, Nat.zero_add, List.length_append, and_true, true_and, AV.flat, hv2, one_solid hv2, one_cells hv2, z1, get_app z1, read_get z1, read_app z1, z0, get_app z0, read_get z0, read_app z0, astore_get z0, astore_app z0, get_set z0, get_set_app z0, read_set z0, read_set_app z0, astore_set z0, astore_set_app z0, List.set_set, hget0s, hgetks, hread0s, hreadks, List.length_set, *, -hK, -ow, -hP, -hJl, -back, -hft, -pt, -hm, -hf1, -hf2, -hP2, -hpb, -o3, -hll, -hJ3] | with_reducible refine IfB_dec (fun h => ?_) (fun h => ?_) | with_reducible refine Guard_dec (fun h => ?_) (fun h => ?_) | with_reducible refine Guard_ndec (fun h => ?_) (fun h => ?_) | with_reducible refine Guard_not (fun h => ?_) (fun h => ?_) | with_reducible refine IfB_ndec (fun h => ?_) (fun h => ?_) | with_reducible refine IfB_not (fun h => ?_) (fun h => ?_) | with_reducible refine Guard_split (fun h => ?_) (fun h => ?_) | with_reducible refine IfB_split (fun h => ?_) (fun h => ?_))
    exact back _ _ (P ++ [t.at_ P.length]) v2 (by (repeat (first | exact hs | refine hA _ _ _ (by decide) ?_))) (by simp only [go_sem, Nat.reduceLT, Nat.reduceEqDiff, Nat.reduceAdd, Nat.reduceMul, Nat.reduceSub, Nat.reduceLeDiff, Int.reduceToNat, Int.reduceNeg, Int.reduceLT, Int.reduceLE, Int.reduceEq, reduceCtorEq]) (by simp only [go_sem, Nat.reduceLT, Nat.reduceEqDiff, Nat.reduceAdd, Nat.reduceMul, Nat.reduceSub, Nat.reduceLeDiff, Int.reduceToNat, Int.reduceNeg, Int.reduceLT, Int.reduceLE, Int.reduceEq, reduceCtorEq]) o3 (by rw [hll, hpb]; exact List.getElem?_set_self hJ3) (by rw [hll]; exact hP2) (by rw [hll]; omega)
  have i1 : ¬ (i : Int) < l.length := by omega
  have hPl : P.length ≤ 60 := by omega
  clear hR hlf hl60 hPi
  refine WX_freezeFE ow (by decide) 10 f10 ?_
  intro G fz
  have gG : G[H.length]? = some (⟨[.int .i64 (P.length : Nat), boxE.lst (boxesOf k P)], 0, .full⟩ : Blk) := by rw [fz.other _ (fun e => by have := ow.ge e; omega)]; exact g0
  clear fz ow hwo g0 hJl
  refine wx_sound hT _ ?_
  repeat' (first | simp only [go_sem, Nat.reduceLT, Nat.reduceEqDiff, Nat.reduceAdd, Nat.reduceMul, Nat.reduceSub, Nat.reduceLeDiff, Int.reduceToNat, Int.reduceNeg, Int.reduceLT, Int.reduceLE, Int.reduceEq, reduceCtorEq, Int.natCast_zero, Int.natCast_one, Int.cast_ofNat_Int, Bool.not_not, false_eq_decide, true_eq_decide, hread0, hreadk, read_cons0, read_consk, astore_h0, astore_hk, hget0, hgetk, hset0, hsetk, hlen, hcat, Nat.add_assoc, Nat.add_zero, Nat.zero_add, List.length_append, and_true, true_and, AV.flat, *, -hK, -gG, -hP, -hlt] | with_reducible refine IfB_dec (fun h => ?_) (fun h => ?_) | with_reducible refine Guard_dec (fun h => ?_) (fun h => ?_) | with_reducible refine Guard_ndec (fun h => ?_) (fun h => ?_) | with_reducible refine Guard_not (fun h => ?_) (fun h => ?_) | with_reducible refine IfB_ndec (fun h => ?_) (fun h => ?_) | with_reducible refine IfB_not (fun h => ?_) (fun h => ?_) | with_reducible refine Guard_split (fun h => ?_) (fun h => ?_) | with_reducible refine IfB_split (fun h => ?_) (fun h => ?_))
  have o0 := s0
  have o2 := s2
  have o8 := s8
  have hO := OrdI.start hP
  refine WX_loopS [0, 2, 8, 10] (fun kn fr2 J => ∃ (L R : List Tkt) (w : AV), kn = P.length - L.length ∧ fr2.get 17 = .int .i64 (L.length : Nat) ∧ fr2.get 11 = w ∧ OwnE tktE (H.length + 1) J w L ∧ J[H.length]? = some (⟨[.int .i64 (P.length : Nat), boxE.lst (boxesOf k R)], 0, .full⟩ : Blk) ∧ OrdI k P L R) P.length ⟨[], P, .nils, rfl, by simp only [go_sem, Nat.reduceLT, Nat.reduceEqDiff, Nat.reduceAdd, Nat.reduceMul, Nat.reduceSub, Nat.reduceLeDiff, Int.reduceToNat, Int.reduceNeg, Int.reduceLT, Int.reduceLE, Int.reduceEq, reduceCtorEq]; rfl, by simp only [go_sem, Nat.reduceLT, Nat.reduceEqDiff, Nat.reduceAdd, Nat.reduceMul, Nat.reduceSub, Nat.reduceLeDiff, Int.reduceToNat, Int.reduceNeg, Int.reduceLT, Int.reduceLE, Int.reduceEq, reduceCtorEq]; exact s11, OwnE.nils _ _ _, gG, hO⟩ ?_
  clear hs s0 s1 s2 s8 s11 hA hg gG hO f12 f10 i1 hlt hi
  rintro kn fr2 J A R hA hs hg hR ⟨L, Q, w, rfl, f17, f11, ow, g0, hO⟩
  have s0 := hg 0 (by decide)
  have s2 := hg 2 (by decide)
  have s8 := hg 8 (by decide)
  have s10 := hg 10 (by decide)
  simp only [Fr.get_put, Fr.get_init, List.getD_cons_zero, List.getD_cons_succ, Nat.reduceEqDiff, if_true, if_false] at s0 s2 s8 s10
  rw [o0] at s0
  rw [o2] at s2
  rw [o8] at s8
  clear o0 o2 o8
  have hwo := ow.one
  have hJl := (List.getElem?_eq_some_iff.1 g0).1
  have hleft := hO.left
  have hfit := queOf_fit hO.rem hk4 hPl
  have hmay := queOf_may hO.rem hk1 hk4 hPl
  have ry := fun J => readyAll_spec (queOf k P.length Q) hfit J
  rw [queE_ok hmay, show readyL (queOf k P.length Q) = readyN (boxesOf k Q) k by unfold readyL; rw [if_pos hmay]; show readyN (boxesOf k Q) (boxesOf k Q).length = _; rw [boxesOf_length]] at ry
  unfold Que.av at ry
  rw [show (queOf k P.length Q).next = ((P.length : Nat) : Int) from rfl, show (queOf k P.length Q).bx = boxesOf k Q from rfl] at ry
  have e0 := ow.alen (T := T) (by decide) tk31
  by_cases hlt : L.length < P.length
  rotate_left
  · have i1 : ¬ (L.length : Int) < P.length := by omega
    have hQ : Q = [] := List.eq_nil_of_length_eq_zero (by omega)
    subst hQ
    clear hR
    rw [queOf_nil] at ry
    have od := fun J => orderly_spec P L k hk1 hk4 hPl (by omega) (fun t ht => (hO.all.fit t ht).1) (fun t ht => ⟨hO.all.may t (hO.mem ht), hO.all.fit t (hO.mem ht)⟩) (fun x hx => hO.count hx) (fun i k hi hk hik => List.pairwise_iff_getElem.1 hO.ord1 i k hi hk hik) J
    refine wx_sound hT _ ?_
    repeat' (first | simp only [go_sem, Nat.reduceLT, Nat.reduceEqDiff, Nat.reduceAdd, Nat.reduceMul, Nat.reduceSub, Nat.reduceLeDiff, Int.reduceToNat, Int.reduceNeg, Int.reduceLT, Int.reduceLE, Int.reduceEq, reduceCtorEq, Int.natCast_zero, Int.natCast_one, Int.cast_ofNat_Int, Bool.not_not, false_eq_decide, true_eq_decide, hread0, hreadk, read_cons0, read_consk, astore_h0, astore_hk, hget0, hgetk, hset0, hsetk, hlen, hcat, Nat.add_assoc, Nat.add_zero, Nat.zero_add, List.length_append, and_true, true_and, AV.flat, hwo, one_solid hwo, one_cells hwo, g0, get_app g0, read_get g0, read_app g0, *, -hK, -ow, -hP, -hO, -hfit, -hmay, -ry, -hlt, -hJl, -od] | refine WC.call (ry _) ?_ | with_reducible refine IfB_dec (fun h => ?_) (fun h => ?_) | with_reducible refine Guard_dec (fun h => ?_) (fun h => ?_) | with_reducible refine Guard_ndec (fun h => ?_) (fun h => ?_) | with_reducible refine Guard_not (fun h => ?_) (fun h => ?_) | with_reducible refine IfB_ndec (fun h => ?_) (fun h => ?_) | with_reducible refine IfB_not (fun h => ?_) (fun h => ?_) | with_reducible refine Guard_split (fun h => ?_) (fun h => ?_) | with_reducible refine IfB_split (fun h => ?_) (fun h => ?_))
    refine WC_freezeE [tktE.lst P, tktE.lst L, .int .i64 k] ow (by decide) ⟨.same _, .here, .same _, trivial⟩ ?_
    intro G fz
    refine (od G).mono ?_
    rintro _ _ ⟨rfl, rfl⟩
    repeat' (first | simp only [go_sem, Nat.reduceLT, Nat.reduceEqDiff, Nat.reduceAdd, Nat.reduceMul, Nat.reduceSub, Nat.reduceLeDiff, Int.reduceToNat, Int.reduceNeg, Int.reduceLT, Int.reduceLE, Int.reduceEq, reduceCtorEq, Int.natCast_zero, Int.natCast_one, Int.cast_ofNat_Int, Bool.not_not, false_eq_decide, true_eq_decide, hread0, hreadk, read_cons0, read_consk, astore_h0, astore_hk, hget0, hgetk, hset0, hsetk, hlen, hcat, Nat.add_assoc, Nat.add_zero, Nat.zero_add, List.length_append, and_true, true_and, AV.flat, *, -hK, -fz, -ow, -hP, -hO, -hfit, -hmay, -ry, -hlt, -hJl, -od, -g0] | with_reducible refine IfB_dec (fun h => ?_) (fun h => ?_) | with_reducible refine Guard_dec (fun h => ?_) (fun h => ?_) | with_reducible refine Guard_ndec (fun h => ?_) (fun h => ?_) | with_reducible refine Guard_not (fun h => ?_) (fun h => ?_) | with_reducible refine IfB_ndec (fun h => ?_) (fun h => ?_) | with_reducible refine IfB_not (fun h => ?_) (fun h => ?_) | with_reducible refine Guard_split (fun h => ?_) (fun h => ?_) | with_reducible refine IfB_split (fun h => ?_) (fun h => ?_))
    exact hK _ _ rfl
  have i1 : (L.length : Int) < P.length := by omega
  have hQ : Q ≠ [] := fun e => by rw [e] at hleft; simp at hleft; omega
  have hrs := queOf_ready hO.rem hk1 hk4 hQ
  have hrl := readyN_len (boxesOf k Q) k
  have hrm := fun (z : Int) => (mem_readyN2 (b := boxesOf k Q) (n := k) (j := z)).1
  have back : ∀ fr3 J2 L2 Q2 w2, A fr3 → L2.length = L.length + 1 → fr3.get 17 = .int .i64 (L2.length : Nat) → fr3.get 11 = w2 → OwnE tktE (H.length + 1) J2 w2 L2 → J2[H.length]? = some (⟨[.int .i64 (P.length : Nat), boxE.lst (boxesOf k Q2)], 0, .full⟩ : Blk) → OrdI k P L2 Q2 → R fr3 J2 := fun fr3 J2 L2 Q2 w2 ha hl q1 q2 q3 q4 q5 => hR fr3 J2 ha (P.length - L2.length) (by omega) ⟨L2, Q2, w2, rfl, q1, q2, q3, q4, q5⟩
  clear hR
  refine wx_sound hT _ ?_
  generalize readyN (boxesOf k Q) k = rs at *
  have hr0 : ¬ (rs.length : Int) = 0 := by have := List.length_pos_iff.2 hrs; omega
  have step : ∀ (a : Nat) (Z : Int), a < rs.length → Z = a → ∃ (kk : Int) (t : Tkt) (Q2 : List Tkt), aindexAddr T 27 ((Enc.int .i64).lst rs) (.int .i64 Z) = some (.cptr [.int .i64 kk]) ∧ OrdI k P (L ++ [t]) Q2 ∧
      ∀ J, WC Try.prog 14 [.agg [.int .i64 ((P.length : Nat) : Int), boxE.lst (boxesOf k Q)], .int .i64 kk] J fun r H' => r = .tup [.agg [.int .i64 ((P.length : Nat) : Int), boxE.lst (boxesOf k Q2)], .agg [.int .i64 t.num, .int .u8 t.kind, .int .u8 t.cmd.kind, .int .i64 t.cmd.ten, Enc.str.lst t.cmd.keys, .str t.cmd.val, .int .u32 t.cmd.flags, .int .i64 t.cmd.for_, .int .u64 t.cmd.uniq, .int .u64 t.cmd.by_, .int .i64 t.ten, .int .i64 t.to], .int .i64 0] ∧ H' = J := fun a Z ha hZ => by
    obtain ⟨kk, hkk, hkl, hrb⟩ := hrm _ (List.getElem_mem ha)
    obtain ⟨t, htQ, htk, hto⟩ := queOf_take hO.rem hk1 hk4 hPl hkl hrb
    have e6 := at_enc (E := Enc.int .i64) (T := T) (k := .i64) (z := Z) se27 ha hZ
    rw [int_cells, hkk] at e6
    refine ⟨kk, t, _, e6, hO.step htQ hto, fun J => ?_⟩
    have tk := take_spec (queOf k P.length Q) kk hfit J
    rw [htk] at tk
    exact tk
  clear hrm hmay hfit hQ hleft hrl hrs
  by_cases hs0 : (sc.length : Int) > 0
  · have hsn : ¬ (sc.length : Int) = 0 := by omega
    have hmod : L.length % sc.length < sc.length := Nat.mod_lt _ (by omega)
    have e5 := at_enc (E := Enc.u8) (T := T) (k := .i64) se66 hmod (Int.ofNat_tmod L.length sc.length).symm
    rw [u8_cells] at e5
    generalize sc[L.length % sc.length] = b at *
    have hb := b.toNat_lt
    have wb : IntKind.i64.wrap (b.toNat : Int) = b.toNat := by rw [IntKind.wrap_i64]; omega
    obtain ⟨kk, t, Q2, e6, hO2, tk⟩ := step (b.toNat % rs.length) _ (Nat.mod_lt _ (by omega)) (Int.ofNat_tmod b.toNat rs.length).symm
    clear step
    repeat' (first | simp only [go_sem, Nat.reduceLT, Nat.reduceEqDiff, Nat.reduceAdd, Nat.reduceMul, Nat.reduceSub, Nat.reduceLeDiff, Int.reduceToNat, Int.reduceNeg, Int.reduceLT, Int.reduceLE, Int.reduceEq, reduceCtorEq, Int.natCast_zero, Int.natCast_one, Int.cast_ofNat_Int, Bool.not_not, false_eq_decide, true_eq_decide, hread0, hreadk, read_cons0, read_consk, astore_h0, astore_hk, hget0, hgetk, hset0, hsetk, hlen, hcat, Nat.add_assoc, Nat.add_zero, Nat.zero_add, List.length_append, and_true, true_and, AV.flat, hwo, one_solid hwo, one_cells hwo, g0, get_app g0, read_get g0, read_app g0, *, -hK, -ow, -hP, -hO, -ry, -hlt, -hJl, -back, -hO2, -tk, -hmod, -hb] | refine WC.call (ry _) ?_ | with_reducible refine IfB_dec (fun h => ?_) (fun h => ?_) | with_reducible refine Guard_dec (fun h => ?_) (fun h => ?_) | with_reducible refine Guard_ndec (fun h => ?_) (fun h => ?_) | with_reducible refine Guard_not (fun h => ?_) (fun h => ?_) | with_reducible refine IfB_ndec (fun h => ?_) (fun h => ?_) | with_reducible refine IfB_not (fun h => ?_) (fun h => ?_) | with_reducible refine Guard_split (fun h => ?_) (fun h => ?_) | with_reducible refine IfB_split (fun h => ?_) (fun h => ?_))
    refine WX_rows hT hmix [(0, none), (1, none), (2, none), (3, none), (4, none), (10, none), (11, none), (5, some [false, false, true, true, true, true, true]), (6, none), (7, none), (8, none), (9, none), (12, some [false, false, true, true, true, true, true, true, true, true, true, true]), (13, some [true, false, true, true, true, true, true, true, true, true, true, true, true]), (14, none)] (by kernel_rfl) ?_
    repeat' (first | simp only [go_sem, Nat.reduceLT, Nat.reduceEqDiff, Nat.reduceAdd, Nat.reduceMul, Nat.reduceSub, Nat.reduceLeDiff, Int.reduceToNat, Int.reduceNeg, Int.reduceLT, Int.reduceLE, Int.reduceEq, reduceCtorEq, Int.natCast_zero, Int.natCast_one, Int.cast_ofNat_Int, Bool.not_not, false_eq_decide, true_eq_decide, hread0, hreadk, read_cons0, read_consk, astore_h0, astore_hk, hget0, hgetk, hset0, hsetk, hlen, hcat, Nat.add_assoc, Nat.add_zero, Nat.zero_add, List.length_append, and_true, true_and, AV.flat, hwo, one_solid hwo, one_cells hwo, g0, get_app g0, read_get g0, read_app g0, *, -hK, -ow, -hP, -hO, -ry, -hlt, -hJl, -back, -hO2, -tk, -hmod, -hb] | refine WC.call (tk _) ?_ | with_reducible refine IfB_dec (fun h => ?_) (fun h => ?_) | with_reducible refine Guard_dec (fun h => ?_) (fun h => ?_) | with_reducible refine Guard_ndec (fun h => ?_) (fun h => ?_) | with_reducible refine Guard_not (fun h => ?_) (fun h => ?_) | with_reducible refine IfB_ndec (fun h => ?_) (fun h => ?_) | with_reducible refine IfB_not (fun h => ?_) (fun h => ?_) | with_reducible refine Guard_split (fun h => ?_) (fun h => ?_) | with_reducible refine IfB_split (fun h => ?_) (fun h => ?_))
    refine append_own (k := 1) (xs := tktE.cells t) (ow.keep0 (Keep.app none J _)) se31 az38 td38 (asrc_sl tk31 (Vs.sl (vs_at (st := .full) (by rw [hgetk]; rfl) rfl rfl))) rfl (by decide) (by rw [Enc.row_length]; show (L.length * 12 + 12) * 120 ≤ _; omega) (by rw [Enc.row_length]; show L.length * 12 + 12 ≤ _; omega) (by simp; omega) ?_
    intro v2 J3 ov2 k2 hn2
    have hv2 := ov2.one
    have o2 : OwnE tktE (H.length + 1) J3 v2 (L ++ [t]) := by unfold OwnE; rw [Enc.row_append, Enc.row_one]; exact ov2
    have z0 := k2.get (get_app g0 _) (fun e => by have := ow.ge e; omega)
    have z1 : J3[J.length]? = some (⟨[.int .i64 (P.length : Nat), boxE.lst (boxesOf k Q2)], 0, .full⟩ : Blk) := k2.get (by rw [hget0]; rfl) (fun e => by have := ow.lt e; omega)
    have o3 : OwnE tktE (H.length + 1) (List.set J3 H.length ⟨[.int .i64 (P.length : Nat), boxE.lst (boxesOf k Q2)], 0, .full⟩) v2 (L ++ [t]) := own_same o2 fun b hb => List.getElem?_set_ne (fun e => by have := o2.ge hb; omega)
    have hJ3 := (List.getElem?_eq_some_iff.1 z0).1
    have hll : (L ++ [t]).length = L.length + 1 := by simp
    have winc : IntKind.i64.wrap ((L.length : Int) + 1) = ((L.length + 1 : Nat) : Int) := by rw [IntKind.wrap_i64]; omega
    clear k2 hn2 ov2 o2
    repeat' (first | simp only [go_sem, Nat.reduceLT, Nat.reduceEqDiff, Nat.reduceAdd, Nat.reduceMul, Nat.reduceSub, Nat.reduceLeDiff, Int.reduceToNat, Int.reduceNeg, Int.reduceLT, Int.reduceLE, Int.reduceEq, reduceCtorEq, Int.natCast_zero, Int.natCast_one, Int.cast_ofNat_Int, Bool.not_not, false_eq_decide, true_eq_decide, hread0, hreadk, read_cons0, read_consk, astore_h0, astore_hk, hget0, hgetk, hset0, hsetk, hlen, hcat, Nat.add_assoc, Nat.add_zero, Nat.zero_add, List.length_append, and_true, true_and, AV.flat, hv2, one_solid hv2, one_cells hv2, z1, get_app z1, read_get z1, read_app z1, z0, get_app z0, read_get z0, read_app z0, astore_get z0, astore_app z0, get_set z0, get_set_app z0, read_set z0, read_set_app z0, astore_set z0, astore_set_app z0, List.set_set, hget0s, hgetks, hread0s, hreadks, List.length_set, *, -hK, -ow, -hP, -hO, -ry, -hlt, -hJl, -back, -hO2, -tk, -hmod, -hb, -o3, -hll, -hJ3] | with_reducible refine IfB_dec (fun h => ?_) (fun h => ?_) | with_reducible refine Guard_dec (fun h => ?_) (fun h => ?_) | with_reducible refine Guard_ndec (fun h => ?_) (fun h => ?_) | with_reducible refine Guard_not (fun h => ?_) (fun h => ?_) | with_reducible refine IfB_ndec (fun h => ?_) (fun h => ?_) | with_reducible refine IfB_not (fun h => ?_) (fun h => ?_) | with_reducible refine Guard_split (fun h => ?_) (fun h => ?_) | with_reducible refine IfB_split (fun h => ?_) (fun h => ?_))
    exact back _ _ (L ++ [t]) Q2 v2 (by (repeat (first | exact hs | refine hA _ _ _ (by decide) ?_))) hll (by rw [hll]; simp only [go_sem, Nat.reduceLT, Nat.reduceEqDiff, Nat.reduceAdd, Nat.reduceMul, Nat.reduceSub, Nat.reduceLeDiff, Int.reduceToNat, Int.reduceNeg, Int.reduceLT, Int.reduceLE, Int.reduceEq, reduceCtorEq]) (by simp only [go_sem, Nat.reduceLT, Nat.reduceEqDiff, Nat.reduceAdd, Nat.reduceMul, Nat.reduceSub, Nat.reduceLeDiff, Int.reduceToNat, Int.reduceNeg, Int.reduceLT, Int.reduceLE, Int.reduceEq, reduceCtorEq]) o3 (List.getElem?_set_self hJ3) hO2
  · have hsn : sc.length = 0 := by omega
    obtain ⟨kk, t, Q2, e6, hO2, tk⟩ := step 0 0 (by omega) rfl
    clear step
    repeat' (first | simp only [go_sem, Nat.reduceLT, Nat.reduceEqDiff, Nat.reduceAdd, Nat.reduceMul, Nat.reduceSub, Nat.reduceLeDiff, Int.reduceToNat, Int.reduceNeg, Int.reduceLT, Int.reduceLE, Int.reduceEq, reduceCtorEq, Int.natCast_zero, Int.natCast_one, Int.cast_ofNat_Int, Bool.not_not, false_eq_decide, true_eq_decide, hread0, hreadk, read_cons0, read_consk, astore_h0, astore_hk, hget0, hgetk, hset0, hsetk, hlen, hcat, Nat.add_assoc, Nat.add_zero, Nat.zero_add, List.length_append, and_true, true_and, AV.flat, hwo, one_solid hwo, one_cells hwo, g0, get_app g0, read_get g0, read_app g0, *, -hK, -ow, -hP, -hO, -ry, -hlt, -hJl, -back, -hO2, -tk, -hsn] | refine WC.call (ry _) ?_ | with_reducible refine IfB_dec (fun h => ?_) (fun h => ?_) | with_reducible refine Guard_dec (fun h => ?_) (fun h => ?_) | with_reducible refine Guard_ndec (fun h => ?_) (fun h => ?_) | with_reducible refine Guard_not (fun h => ?_) (fun h => ?_) | with_reducible refine IfB_ndec (fun h => ?_) (fun h => ?_) | with_reducible refine IfB_not (fun h => ?_) (fun h => ?_) | with_reducible refine Guard_split (fun h => ?_) (fun h => ?_) | with_reducible refine IfB_split (fun h => ?_) (fun h => ?_))
    refine WX_rows hT hmix [(0, none), (1, none), (2, none), (3, none), (4, none), (10, none), (11, none), (5, some [false, false, true, true, true, true, true]), (6, none), (7, none), (8, none), (9, none), (12, some [false, false, true, true, true, true, true, true, true, true, true, true]), (13, some [true, false, true, true, true, true, true, true, true, true, true, true, true]), (14, none)] (by kernel_rfl) ?_
    repeat' (first | simp only [go_sem, Nat.reduceLT, Nat.reduceEqDiff, Nat.reduceAdd, Nat.reduceMul, Nat.reduceSub, Nat.reduceLeDiff, Int.reduceToNat, Int.reduceNeg, Int.reduceLT, Int.reduceLE, Int.reduceEq, reduceCtorEq, Int.natCast_zero, Int.natCast_one, Int.cast_ofNat_Int, Bool.not_not, false_eq_decide, true_eq_decide, hread0, hreadk, read_cons0, read_consk, astore_h0, astore_hk, hget0, hgetk, hset0, hsetk, hlen, hcat, Nat.add_assoc, Nat.add_zero, Nat.zero_add, List.length_append, and_true, true_and, AV.flat, hwo, one_solid hwo, one_cells hwo, g0, get_app g0, read_get g0, read_app g0, *, -hK, -ow, -hP, -hO, -ry, -hlt, -hJl, -back, -hO2, -tk, -hsn] | refine WC.call (tk _) ?_ | with_reducible refine IfB_dec (fun h => ?_) (fun h => ?_) | with_reducible refine Guard_dec (fun h => ?_) (fun h => ?_) | with_reducible refine Guard_ndec (fun h => ?_) (fun h => ?_) | with_reducible refine Guard_not (fun h => ?_) (fun h => ?_) | with_reducible refine IfB_ndec (fun h => ?_) (fun h => ?_) | with_reducible refine IfB_not (fun h => ?_) (fun h => ?_) | with_reducible refine Guard_split (fun h => ?_) (fun h => ?_) | with_reducible refine IfB_split (fun h => ?_) (fun h => ?_))
    refine append_own (k := 1) (xs := tktE.cells t) (ow.keep0 (Keep.app none J _)) se31 az38 td38 (asrc_sl tk31 (Vs.sl (vs_at (st := .full) (by rw [hgetk]; rfl) rfl rfl))) rfl (by decide) (by rw [Enc.row_length]; show (L.length * 12 + 12) * 120 ≤ _; omega) (by rw [Enc.row_length]; show L.length * 12 + 12 ≤ _; omega) (by simp; omega) ?_
    intro v2 J3 ov2 k2 hn2
    have hv2 := ov2.one
    have o2 : OwnE tktE (H.length + 1) J3 v2 (L ++ [t]) := by unfold OwnE; rw [Enc.row_append, Enc.row_one]; exact ov2
    have z0 := k2.get (get_app g0 _) (fun e => by have := ow.ge e; omega)
    have z1 : J3[J.length]? = some (⟨[.int .i64 (P.length : Nat), boxE.lst (boxesOf k Q2)], 0, .full⟩ : Blk) := k2.get (by rw [hget0]; rfl) (fun e => by have := ow.lt e; omega)
    have o3 : OwnE tktE (H.length + 1) (List.set J3 H.length ⟨[.int .i64 (P.length : Nat), boxE.lst (boxesOf k Q2)], 0, .full⟩) v2 (L ++ [t]) := own_same o2 fun b hb => List.getElem?_set_ne (fun e => by have := o2.ge hb; omega)
    have hJ3 := (List.getElem?_eq_some_iff.1 z0).1
    have hll : (L ++ [t]).length = L.length + 1 := by simp
    have winc : IntKind.i64.wrap ((L.length : Int) + 1) = ((L.length + 1 : Nat) : Int) := by rw [IntKind.wrap_i64]; omega
    clear k2 hn2 ov2 o2
    repeat' (first | simp only [go_sem, Nat.reduceLT, Nat.reduceEqDiff, Nat.reduceAdd, Nat.reduceMul, Nat.reduceSub, Nat.reduceLeDiff, Int.reduceToNat, Int.reduceNeg, Int.reduceLT, Int.reduceLE, Int.reduceEq, reduceCtorEq, Int.natCast_zero, Int.natCast_one, Int.cast_ofNat_Int, Bool.not_not, false_eq_decide, true_eq_decide, hread0, hreadk, read_cons0, read_consk, astore_h0, astore_hk, hget0, hgetk, hset0, hsetk, hlen, hcat, Nat.add_assoc, Nat.add_zero, Nat.zero_add, List.length_append, and_true, true_and, AV.flat, hv2, one_solid hv2, one_cells hv2, z1, get_app z1, read_get z1, read_app z1, z0, get_app z0, read_get z0, read_app z0, astore_get z0, astore_app z0, get_set z0, get_set_app z0, read_set z0, read_set_app z0, astore_set z0, astore_set_app z0, List.set_set, hget0s, hgetks, hread0s, hreadks, List.length_set, *, -hK, -ow, -hP, -hO, -ry, -hlt, -hJl, -back, -hO2, -tk, -hsn, -o3, -hll, -hJ3] | with_reducible refine IfB_dec (fun h => ?_) (fun h => ?_) | with_reducible refine Guard_dec (fun h => ?_) (fun h => ?_) | with_reducible refine Guard_ndec (fun h => ?_) (fun h => ?_) | with_reducible refine Guard_not (fun h => ?_) (fun h => ?_) | with_reducible refine IfB_ndec (fun h => ?_) (fun h => ?_) | with_reducible refine IfB_not (fun h => ?_) (fun h => ?_) | with_reducible refine Guard_split (fun h => ?_) (fun h => ?_) | with_reducible refine IfB_split (fun h => ?_) (fun h => ?_))
    exact back _ _ (L ++ [t]) Q2 v2 (by (repeat (first | exact hs | refine hA _ _ _ (by decide) ?_))) hll (by rw [hll]; simp only [go_sem, Nat.reduceLT, Nat.reduceEqDiff, Nat.reduceAdd, Nat.reduceMul, Nat.reduceSub, Nat.reduceLeDiff, Int.reduceToNat, Int.reduceNeg, Int.reduceLT, Int.reduceLE, Int.reduceEq, reduceCtorEq]) (by simp only [go_sem, Nat.reduceLT, Nat.reduceEqDiff, Nat.reduceAdd, Nat.reduceMul, Nat.reduceSub, Nat.reduceLeDiff, Int.reduceToNat, Int.reduceNeg, Int.reduceLT, Int.reduceLE, Int.reduceEq, reduceCtorEq]) o3 (List.getElem?_set_self hJ3) hO2
end Go.Proofs.Ytkmkhiipiflelaa
