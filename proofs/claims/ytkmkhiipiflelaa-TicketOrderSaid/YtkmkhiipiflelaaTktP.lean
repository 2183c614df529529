import Derived.Test.YtkmkhiipiflelaaTktM
import Derived.Test.YtkmkhiipiflelaaTktU
set_option linter.unusedSimpArgs false
set_option linter.unusedVariables false
set_option maxRecDepth 100000
set_option maxHeartbeats 4000000
namespace Go.Proofs.Ytkmkhiipiflelaa
open Go Go.Proofs Go.Proofs.PI
/-! ### inboxes in memory of their own -/
def grown (bs : List (List Tkt)) (i : Nat) : List (List Tkt) := bs.take i ++ List.replicate (bs.length - i) []
theorem grown_len {bs : List (List Tkt)} {i : Nat} (h : i ≤ bs.length) : (grown bs i).length = bs.length := by
  unfold grown; rw [List.length_append, List.length_take, List.length_replicate]; omega
theorem grown_get {bs : List (List Tkt)} {i : Nat} (h : i < bs.length) : (grown bs i)[i]? = some [] := by
  unfold grown
  rw [List.getElem?_append_right (by rw [List.length_take]; omega), List.length_take, show i - min i bs.length = 0 by omega, show bs.length - i = (bs.length - (i + 1)) + 1 by omega, List.replicate_succ]
  rfl
theorem grown_set {bs : List (List Tkt)} {i : Nat} (h : i < bs.length) : (grown bs i).set i bs[i] = grown bs (i + 1) := by
  unfold grown
  rw [List.set_append_right _ _ (by rw [List.length_take]; omega), List.length_take, show i - min i bs.length = 0 by omega, show bs.length - i = (bs.length - (i + 1)) + 1 by omega, List.replicate_succ, List.set_cons_zero, List.take_succ_eq_append_getElem h, List.append_assoc]
  rfl
theorem grown_set0 {bs : List (List Tkt)} {i : Nat} (h : i < bs.length) : (grown bs i).set i [] = grown bs i := by
  have hg := grown_get h
  obtain ⟨h1, h2⟩ := List.getElem?_eq_some_iff.1 hg
  exact (congrArg _ h2.symm).trans (List.set_getElem_self h1)
theorem flat_nils (n : Nat) : (List.replicate n [AV.nils]).flatten = List.replicate n .nils := by
  induction n with
  | zero => rfl
  | succ n ih => rw [List.replicate_succ, List.flatten_cons, ih]; rfl
theorem vs_at {X : Heap} {b : Nat} {cs : List AV} {sz : Nat} {st : St} (hb : X[b]? = some ⟨cs, sz, st⟩) (hal : st.alive = true) (hl : cs.length = 1 * sz) : Vs X (.sl b 0 1 none) sz 1 cs :=
  ⟨hl, .inr (.inr ⟨b, 0, none, _, rfl, by simp, hb, hal, fun _ => rfl, by simp; omega, by rw [Nat.one_mul] at hl ⊢; rw [List.drop_zero, ← hl, List.take_length]⟩)⟩
theorem own_sc {α : Type} {E : Enc α} {m : Nat} {H : Heap} {v : AV} {xs : List α} (o : OwnE E m H v xs) : v.solid = true ∧ v.cells = [v] := by
  rcases o with ⟨rfl, _⟩ | ⟨b, n, st, rest, rfl, _⟩ <;> exact ⟨rfl, rfl⟩
theorem twin_own (q : Que) (h4 : q.bx.length ≤ 20) (hb : qFit q.bx) (H : Heap) :
    WC Try.prog 35 [q.av] H fun r H' => (∃ p ps, r = .agg [.int .i64 q.next, .sl p 0 q.bx.length none] ∧ BxO H.length H' p ps q.bx) ∧ Keep none H H' := by
  refine WC_of_K fun K hK => ?_
  obtain ⟨nx, bs⟩ := q
  unfold Que.av
  simp only at h4 hb hK ⊢
  obtain ⟨-, hb⟩ := hb
  have hc : (0 : Int) ≤ bs.length ∧ (bs.length : Int) ≤ bs.length ∧ (bs.length : Int) ≤ 140737488355328 ∧ 24 * (bs.length : Int) ≤ 140737488355328 := by omega
  have hj : (bs.length : Int).toNat = bs.length := Int.toNat_natCast _
  refine WC_of_body hT Try.func35 rfl (by simp [Try.f35]) (by simp [Try.f35]) (wx_sound hT _ ?_)
  simp only [Try.f35]
  repeat' (first | simp only [go_sem, Nat.reduceLT, Nat.reduceEqDiff, Nat.reduceAdd, Nat.reduceMul, Nat.reduceSub, Nat.reduceLeDiff, Int.reduceToNat, Int.reduceNeg, Int.reduceLT, Int.reduceLE, Int.reduceEq, reduceCtorEq, Int.natCast_zero, Int.natCast_one, Int.cast_ofNat_Int, Bool.not_not, false_eq_decide, true_eq_decide, hread0, hreadk, read_cons0, read_consk, astore_h0, astore_hk, hget0, hgetk, hset0, hsetk, hlen, hcat, Nat.add_assoc, Nat.add_zero, Nat.zero_add, List.length_append, and_true, true_and, AV.flat, *, -hK, -hc, -hj, -hb] | with_reducible refine IfB_dec (fun h => ?_) (fun h => ?_) | with_reducible refine Guard_dec (fun h => ?_) (fun h => ?_) | with_reducible refine Guard_ndec (fun h => ?_) (fun h => ?_) | with_reducible refine Guard_not (fun h => ?_) (fun h => ?_) | with_reducible refine IfB_ndec (fun h => ?_) (fun h => ?_) | with_reducible refine IfB_not (fun h => ?_) (fun h => ?_) | with_reducible refine Guard_split (fun h => ?_) (fun h => ?_) | with_reducible refine IfB_split (fun h => ?_) (fun h => ?_))
  refine WX_rows hT hmix [(0, none), (1, none), (2, none), (3, none), (4, none), (5, none), (6, none), (7, none), (8, some [true, true, true, true, true, true, true, true])] (by kernel_rfl) ?_
  repeat' (first | simp only [go_sem, Nat.reduceLT, Nat.reduceEqDiff, Nat.reduceAdd, Nat.reduceMul, Nat.reduceSub, Nat.reduceLeDiff, Int.reduceToNat, Int.reduceNeg, Int.reduceLT, Int.reduceLE, Int.reduceEq, reduceCtorEq, Int.natCast_zero, Int.natCast_one, Int.cast_ofNat_Int, Bool.not_not, false_eq_decide, true_eq_decide, hread0, hreadk, read_cons0, read_consk, astore_h0, astore_hk, hget0, hgetk, hset0, hsetk, hlen, hcat, Nat.add_assoc, Nat.add_zero, Nat.zero_add, List.length_append, and_true, true_and, AV.flat, *, -hK, -hc, -hj, -hb] | with_reducible refine IfB_dec (fun h => ?_) (fun h => ?_) | with_reducible refine Guard_dec (fun h => ?_) (fun h => ?_) | with_reducible refine Guard_ndec (fun h => ?_) (fun h => ?_) | with_reducible refine Guard_not (fun h => ?_) (fun h => ?_) | with_reducible refine IfB_ndec (fun h => ?_) (fun h => ?_) | with_reducible refine IfB_not (fun h => ?_) (fun h => ?_) | with_reducible refine Guard_split (fun h => ?_) (fun h => ?_) | with_reducible refine IfB_split (fun h => ?_) (fun h => ?_))
  rw [if_pos hc]
  simp only [hj, flat_nils]
  repeat' (first | simp only [go_sem, Nat.reduceLT, Nat.reduceEqDiff, Nat.reduceAdd, Nat.reduceMul, Nat.reduceSub, Nat.reduceLeDiff, Int.reduceToNat, Int.reduceNeg, Int.reduceLT, Int.reduceLE, Int.reduceEq, reduceCtorEq, Int.natCast_zero, Int.natCast_one, Int.cast_ofNat_Int, Bool.not_not, false_eq_decide, true_eq_decide, hread0, hreadk, read_cons0, read_consk, astore_h0, astore_hk, hget0, hgetk, hset0, hsetk, hlen, hcat, Nat.add_assoc, Nat.add_zero, Nat.zero_add, List.length_append, and_true, true_and, AV.flat, *, -hK, -hc, -hj, -hb] | with_reducible refine IfB_dec (fun h => ?_) (fun h => ?_) | with_reducible refine Guard_dec (fun h => ?_) (fun h => ?_) | with_reducible refine Guard_ndec (fun h => ?_) (fun h => ?_) | with_reducible refine Guard_not (fun h => ?_) (fun h => ?_) | with_reducible refine IfB_ndec (fun h => ?_) (fun h => ?_) | with_reducible refine IfB_not (fun h => ?_) (fun h => ?_) | with_reducible refine Guard_split (fun h => ?_) (fun h => ?_) | with_reducible refine IfB_split (fun h => ?_) (fun h => ?_))
  refine WX_loopS [1, 2, 3, 16, 17] (fun k fr' J => ∃ (i : Nat) (ps : List AV), k = bs.length - i ∧ i ≤ bs.length ∧ fr'.get 18 = .int .i64 i ∧ Keep none H J ∧ J[H.length]? = some (⟨[.int .i64 nx, boxE.lst bs], 0, .full⟩ : Blk) ∧ J[H.length + 1]? = some (⟨[.int .i64 0, .nils], 0, .full⟩ : Blk) ∧ J[H.length + 3]? = some (⟨[.int .i64 nx, .sl (H.length + 2) 0 bs.length none], 0, .full⟩ : Blk) ∧ BxO (H.length + 2) J (H.length + 2) ps (grown bs i) ∧ ∀ (j : Nat) (x : AV), ps[j]? = some x → x.blk ≠ some (H.length + 3)) bs.length ⟨0, List.replicate bs.length .nils, rfl, by omega, by simp only [go_sem, Nat.reduceLT, Nat.reduceEqDiff, Nat.reduceAdd, Nat.reduceMul, Nat.reduceSub, Nat.reduceLeDiff, Int.reduceToNat, Int.reduceNeg, Int.reduceLT, Int.reduceLE, Int.reduceEq, reduceCtorEq]; rfl, Keep.app _ _ _, by simp, by simp, by simp, ?_, ?_⟩ ?_
  · have w0 := BxO.new (m := H.length + 2) (H ++ [(⟨[.int .i64 nx, boxE.lst bs], 0, .full⟩ : Blk), (⟨[.int .i64 0, .nils], 0, .full⟩ : Blk)]) bs.length (by simp) (st := .full) rfl
    have w1 := w0.keep (Keep.app none _ [(⟨[.int .i64 nx, .sl (H.length + 2) 0 bs.length none], 0, .full⟩ : Blk)])
    have e0 : grown bs 0 = List.replicate bs.length [] := by unfold grown; simp
    rw [e0]
    simpa using w1
  · intro j x hx
    rw [List.eq_of_mem_replicate (List.mem_of_getElem? hx)]; simp [AV.blk]
  rintro k fr' J A R hA hs hg hR ⟨i, ps, rfl, hi, f18, kJ, g0, g1, g3, W, hps⟩
  have s1 := hg 1 (by decide)
  have s2 := hg 2 (by decide)
  have s3 := hg 3 (by decide)
  have s16 := hg 16 (by decide)
  have s17 := hg 17 (by decide)
  simp only [Fr.get_put, Fr.get_init, List.getD_cons_zero, List.getD_cons_succ, Nat.reduceEqDiff, if_true, if_false] at s1 s2 s3 s16 s17
  refine wx_sound hT _ ?_
  by_cases hlt : i < bs.length
  rotate_left
  · have i5 : ¬ (i : Int) < bs.length := by omega
    have hie : i = bs.length := by omega
    have e0 : grown bs i = bs := by unfold grown; rw [hie]; simp
    rw [e0] at W
    have hJl := (List.getElem?_eq_some_iff.1 g3).1
    repeat' (first | simp only [go_sem, Nat.reduceLT, Nat.reduceEqDiff, Nat.reduceAdd, Nat.reduceMul, Nat.reduceSub, Nat.reduceLeDiff, Int.reduceToNat, Int.reduceNeg, Int.reduceLT, Int.reduceLE, Int.reduceEq, reduceCtorEq, Int.natCast_zero, Int.natCast_one, Int.cast_ofNat_Int, Bool.not_not, false_eq_decide, true_eq_decide, hread0, hreadk, read_cons0, read_consk, astore_h0, astore_hk, hget0, hgetk, hset0, hsetk, hlen, hcat, Nat.add_assoc, Nat.add_zero, Nat.zero_add, List.length_append, and_true, true_and, AV.flat, g3, get_app g3, read_get g3, read_app g3, g1, get_app g1, read_get g1, read_app g1, astore_get g1, astore_app g1, get_set g1, get_set_app g1, read_set g1, read_set_app g1, astore_set g1, astore_set_app g1, List.set_set, hget0s, hgetks, hread0s, hreadks, List.length_set, *, -hK, -hc, -hj, -hb, -W, -kJ, -g0, -hps, -hlt, -hie, -e0, -hJl] | with_reducible refine IfB_dec (fun h => ?_) (fun h => ?_) | with_reducible refine Guard_dec (fun h => ?_) (fun h => ?_) | with_reducible refine Guard_ndec (fun h => ?_) (fun h => ?_) | with_reducible refine Guard_not (fun h => ?_) (fun h => ?_) | with_reducible refine IfB_ndec (fun h => ?_) (fun h => ?_) | with_reducible refine IfB_not (fun h => ?_) (fun h => ?_) | with_reducible refine Guard_split (fun h => ?_) (fun h => ?_) | with_reducible refine IfB_split (fun h => ?_) (fun h => ?_))
    exact hK _ _ ⟨⟨_, ps, rfl, (W.low fun b hb _ => List.getElem?_set_ne (by omega)).mono (by omega)⟩, ⟨by simp; exact kJ.len, fun b hb _ => by rw [List.getElem?_set_ne (by omega)]; exact kJ.at_ b hb (by simp)⟩⟩
  have i5 : (i : Int) < bs.length := by omega
  have e3 := inc_id hlt (by omega)
  have e1 := at_enc (E := boxE) (T := T) (k := .i64) se22 hlt rfl
  rw [boxE_cells] at e1
  obtain ⟨hl1, hl2⟩ := hb _ (List.getElem_mem hlt)
  have hset := grown_set hlt
  have hset0 := grown_set0 hlt
  have hgi := grown_get hlt
  have hgl := grown_len (Nat.le_of_lt hlt)
  rw [← hset0] at W
  have back : ∀ fr2 J2 qs, A fr2 → fr2.get 18 = .int .i64 ((i + 1 : Nat) : Int) → Keep none H J2 → J2[H.length]? = some (⟨[.int .i64 nx, boxE.lst bs], 0, .full⟩ : Blk) → J2[H.length + 1]? = some (⟨[.int .i64 0, .nils], 0, .full⟩ : Blk) → J2[H.length + 3]? = some (⟨[.int .i64 nx, .sl (H.length + 2) 0 bs.length none], 0, .full⟩ : Blk) → BxO (H.length + 2) J2 (H.length + 2) qs ((grown bs i).set i bs[i]) → (∀ (j : Nat) (x : AV), qs[j]? = some x → x.blk ≠ some (H.length + 3)) → R fr2 J2 := fun fr2 J2 qs ha q1 q2 q3 q4 q5 q6 q7 => hR fr2 J2 ha (bs.length - (i + 1)) (by omega) ⟨i + 1, qs, rfl, by omega, q1, q2, q3, q4, q5, by rw [← hset]; exact q6, q7⟩
  clear hR hset hset0
  generalize bs[i] = l at *
  generalize grown bs i = G at *
  repeat' (first | simp only [go_sem, Nat.reduceLT, Nat.reduceEqDiff, Nat.reduceAdd, Nat.reduceMul, Nat.reduceSub, Nat.reduceLeDiff, Int.reduceToNat, Int.reduceNeg, Int.reduceLT, Int.reduceLE, Int.reduceEq, reduceCtorEq, Int.natCast_zero, Int.natCast_one, Int.cast_ofNat_Int, Bool.not_not, false_eq_decide, true_eq_decide, hread0, hreadk, read_cons0, read_consk, astore_h0, astore_hk, hget0, hgetk, hset0, hsetk, hlen, hcat, Nat.add_assoc, Nat.add_zero, Nat.zero_add, List.length_append, and_true, true_and, AV.flat, *, -hK, -hc, -hj, -hb, -W, -kJ, -g0, -g1, -g3, -hps, -hlt, -back, -hl1, -hl2, -hgi, -hgl] | with_reducible refine IfB_dec (fun h => ?_) (fun h => ?_) | with_reducible refine Guard_dec (fun h => ?_) (fun h => ?_) | with_reducible refine Guard_ndec (fun h => ?_) (fun h => ?_) | with_reducible refine Guard_not (fun h => ?_) (fun h => ?_) | with_reducible refine IfB_ndec (fun h => ?_) (fun h => ?_) | with_reducible refine IfB_not (fun h => ?_) (fun h => ?_) | with_reducible refine Guard_split (fun h => ?_) (fun h => ?_) | with_reducible refine IfB_split (fun h => ?_) (fun h => ?_))
  have hA0 := hA
  have o1 := s1
  have o2 := s2
  have o3 := s3
  have o16 := s16
  have o17 := s17
  refine WX_loopS [1, 2, 3, 16, 17, 18, 4, 23, 24] (fun k fr' J2 => ∃ (z : Nat) (qs : List AV), k = l.length - z ∧ z ≤ l.length ∧ fr'.get 25 = .int .i64 z ∧ Keep none H J2 ∧ J2[H.length]? = some (⟨[.int .i64 nx, boxE.lst bs], 0, .full⟩ : Blk) ∧ J2[H.length + 1]? = some (⟨[.int .i64 0, .nils], 0, .full⟩ : Blk) ∧ J2[H.length + 3]? = some (⟨[.int .i64 nx, .sl (H.length + 2) 0 bs.length none], 0, .full⟩ : Blk) ∧ BxO (H.length + 2) J2 (H.length + 2) qs (G.set i (l.take z)) ∧ (∀ (j : Nat) (x : AV), qs[j]? = some x → x.blk ≠ some (H.length + 3)) ∧ A fr') l.length ⟨0, ps, rfl, by omega, by simp only [go_sem, Nat.reduceLT, Nat.reduceEqDiff, Nat.reduceAdd, Nat.reduceMul, Nat.reduceSub, Nat.reduceLeDiff, Int.reduceToNat, Int.reduceNeg, Int.reduceLT, Int.reduceLE, Int.reduceEq, reduceCtorEq]; rfl, kJ, g0, g1, g3, W, hps, by (repeat (first | exact hs | refine hA _ _ _ (by decide) ?_))⟩ ?_
  clear hg hs hA s1 s2 s3 s16 s17 g0 g1 g3 kJ W hps
  rintro k fr' J2 A2 R2 hA hs hg hR2 ⟨z, qs, rfl, hz, f25, kJ, g0, g1, g3, W, hps, hAf⟩
  have s1 := hg 1 (by decide)
  have s2 := hg 2 (by decide)
  have s3 := hg 3 (by decide)
  have s16 := hg 16 (by decide)
  have s17 := hg 17 (by decide)
  have s18 := hg 18 (by decide)
  have s4 := hg 4 (by decide)
  have s23 := hg 23 (by decide)
  have s24 := hg 24 (by decide)
  simp only [Fr.get_put, Fr.get_init, List.getD_cons_zero, List.getD_cons_succ, Nat.reduceEqDiff, if_true, if_false] at s1 s2 s3 s16 s17 s18 s4 s23 s24
  rw [o1] at s1
  rw [o2] at s2
  rw [o3] at s3
  rw [o16] at s16
  rw [o17] at s17
  rw [f18] at s18
  clear o1 o2 o3 o16 o17 f18
  refine wx_sound hT _ ?_
  by_cases hlz : z < l.length
  rotate_left
  · have i6 : ¬ (z : Int) < l.length := by omega
    rw [List.take_of_length_le (by omega)] at W
    repeat' (first | simp only [go_sem, Nat.reduceLT, Nat.reduceEqDiff, Nat.reduceAdd, Nat.reduceMul, Nat.reduceSub, Nat.reduceLeDiff, Int.reduceToNat, Int.reduceNeg, Int.reduceLT, Int.reduceLE, Int.reduceEq, reduceCtorEq, Int.natCast_zero, Int.natCast_one, Int.cast_ofNat_Int, Bool.not_not, false_eq_decide, true_eq_decide, hread0, hreadk, read_cons0, read_consk, astore_h0, astore_hk, hget0, hgetk, hset0, hsetk, hlen, hcat, Nat.add_assoc, Nat.add_zero, Nat.zero_add, List.length_append, and_true, true_and, AV.flat, *, -hK, -hc, -hj, -hb, -W, -kJ, -g0, -g1, -g3, -hps, -back, -hl1, -hl2, -hgi, -hgl, -hlz] | with_reducible refine IfB_dec (fun h => ?_) (fun h => ?_) | with_reducible refine Guard_dec (fun h => ?_) (fun h => ?_) | with_reducible refine Guard_ndec (fun h => ?_) (fun h => ?_) | with_reducible refine Guard_not (fun h => ?_) (fun h => ?_) | with_reducible refine IfB_ndec (fun h => ?_) (fun h => ?_) | with_reducible refine IfB_not (fun h => ?_) (fun h => ?_) | with_reducible refine Guard_split (fun h => ?_) (fun h => ?_) | with_reducible refine IfB_split (fun h => ?_) (fun h => ?_))
    exact back _ _ qs (by repeat (first | exact hAf | refine hA0 _ _ _ (by decide) ?_)) (by simp only [go_sem, Nat.reduceLT, Nat.reduceEqDiff, Nat.reduceAdd, Nat.reduceMul, Nat.reduceSub, Nat.reduceLeDiff, Int.reduceToNat, Int.reduceNeg, Int.reduceLT, Int.reduceLE, Int.reduceEq, reduceCtorEq]) kJ g0 g1 g3 W hps
  have i6 : (z : Int) < l.length := by omega
  have e7 := inc_id hlz (by omega)
  have e4 := at_enc (E := tktE) (T := T) (k := .i64) se31 hlz rfl
  rw [tktE_cells] at e4
  obtain ⟨x, hx, hgx, ow, hxp⟩ := W.get (i := i) (by rw [List.length_set, hgl]; exact hlt)
  have hq1 := (hl2 _ (List.getElem_mem hlz)).1
  have c1 := fun J => one_spec l[z] (by omega) J
  have hts := List.take_succ_eq_append_getElem hlz
  have hli : (G.set i (l.take z))[i]'(by rw [List.length_set, hgl]; exact hlt) = l.take z := List.getElem_set_self _
  rw [hli] at ow hgx
  clear hli
  have hzl : (l.take z).length = z := by rw [List.length_take]; omega
  have back2 : ∀ fr2 J3 qs2, A2 fr2 → fr2.get 25 = .int .i64 ((z + 1 : Nat) : Int) → Keep none H J3 → J3[H.length]? = some (⟨[.int .i64 nx, boxE.lst bs], 0, .full⟩ : Blk) → J3[H.length + 1]? = some (⟨[.int .i64 0, .nils], 0, .full⟩ : Blk) → J3[H.length + 3]? = some (⟨[.int .i64 nx, .sl (H.length + 2) 0 bs.length none], 0, .full⟩ : Blk) → BxO (H.length + 2) J3 (H.length + 2) qs2 (G.set i (l.take z ++ [l[z]])) → (∀ (j : Nat) (x : AV), qs2[j]? = some x → x.blk ≠ some (H.length + 3)) → A fr2 → R2 fr2 J3 := fun fr2 J3 qs2 ha j1 j2 j3 j4 j5 j6 j7 j8 => hR2 fr2 J3 ha (l.length - (z + 1)) (by omega) ⟨z + 1, qs2, rfl, by omega, j1, j2, j3, j4, j5, by rw [hts]; exact j6, j7, j8⟩
  clear hR2 back hl2 hb hts
  generalize l.take z = ll at *
  generalize l[z] = t at *
  have hxo := ow.one
  have hJl := (List.getElem?_eq_some_iff.1 g3).1
  have ad := BxO.addr (p := H.length + 2) (T' := T) se22 hlt
  unfold Tkt.av at c1
  have rd := (W.keep (Keep.app none J2 [(⟨t.cs, 0, .full⟩ : Blk)])).read hx
  unfold Tkt.cs at rd
  have g4 := get_app g3 [(⟨t.cs, 0, .full⟩ : Blk)]
  unfold Tkt.cs at g4
  repeat' (first | simp only [go_sem, Nat.reduceLT, Nat.reduceEqDiff, Nat.reduceAdd, Nat.reduceMul, Nat.reduceSub, Nat.reduceLeDiff, Int.reduceToNat, Int.reduceNeg, Int.reduceLT, Int.reduceLE, Int.reduceEq, reduceCtorEq, Int.natCast_zero, Int.natCast_one, Int.cast_ofNat_Int, Bool.not_not, false_eq_decide, true_eq_decide, hread0, hreadk, read_cons0, read_consk, astore_h0, astore_hk, hget0, hgetk, hset0, hsetk, hlen, hcat, Nat.add_assoc, Nat.add_zero, Nat.zero_add, List.length_append, and_true, true_and, AV.flat, g4, get_app g4, read_get g4, read_app g4, hxo, one_solid hxo, one_cells hxo, *, -hK, -hc, -hj, -W, -kJ, -g0, -g1, -g3, -hps, -back2, -hl1, -hgi, -hgl, -hx, -hgx, -ow, -hxp, -hq1, -c1, -hzl, -hJl] | with_reducible refine IfB_dec (fun h => ?_) (fun h => ?_) | with_reducible refine Guard_dec (fun h => ?_) (fun h => ?_) | with_reducible refine Guard_ndec (fun h => ?_) (fun h => ?_) | with_reducible refine Guard_not (fun h => ?_) (fun h => ?_) | with_reducible refine IfB_ndec (fun h => ?_) (fun h => ?_) | with_reducible refine IfB_not (fun h => ?_) (fun h => ?_) | with_reducible refine Guard_split (fun h => ?_) (fun h => ?_) | with_reducible refine IfB_split (fun h => ?_) (fun h => ?_))
  refine WX_rows hT hmix [(0, none), (1, none), (2, none), (3, none), (4, none), (5, none), (6, none), (7, none), (8, none), (9, some [true, false, false, false, false, false, false, false, false]), (10, none), (11, some [true, true, true, true, true, true, true, true, false, false, false]), (12, none), (13, some [true, true, true, true, true, true, true, true, true, true, true, true, true])] (by kernel_rfl) ?_
  repeat' (first | simp only [go_sem, Nat.reduceLT, Nat.reduceEqDiff, Nat.reduceAdd, Nat.reduceMul, Nat.reduceSub, Nat.reduceLeDiff, Int.reduceToNat, Int.reduceNeg, Int.reduceLT, Int.reduceLE, Int.reduceEq, reduceCtorEq, Int.natCast_zero, Int.natCast_one, Int.cast_ofNat_Int, Bool.not_not, false_eq_decide, true_eq_decide, hread0, hreadk, read_cons0, read_consk, astore_h0, astore_hk, hget0, hgetk, hset0, hsetk, hlen, hcat, Nat.add_assoc, Nat.add_zero, Nat.zero_add, List.length_append, and_true, true_and, AV.flat, g4, get_app g4, read_get g4, read_app g4, hxo, one_solid hxo, one_cells hxo, *, -hK, -hc, -hj, -W, -kJ, -g0, -g1, -g3, -hps, -back2, -hl1, -hgi, -hgl, -hx, -hgx, -ow, -hxp, -hq1, -c1, -hzl, -hJl] | with_reducible refine IfB_dec (fun h => ?_) (fun h => ?_) | with_reducible refine Guard_dec (fun h => ?_) (fun h => ?_) | with_reducible refine Guard_ndec (fun h => ?_) (fun h => ?_) | with_reducible refine Guard_not (fun h => ?_) (fun h => ?_) | with_reducible refine IfB_ndec (fun h => ?_) (fun h => ?_) | with_reducible refine IfB_not (fun h => ?_) (fun h => ?_) | with_reducible refine Guard_split (fun h => ?_) (fun h => ?_) | with_reducible refine IfB_split (fun h => ?_) (fun h => ?_))
  refine (c1 _).mono ?_
  rintro _ _ ⟨rfl, rfl⟩
  repeat' (first | simp only [go_sem, Nat.reduceLT, Nat.reduceEqDiff, Nat.reduceAdd, Nat.reduceMul, Nat.reduceSub, Nat.reduceLeDiff, Int.reduceToNat, Int.reduceNeg, Int.reduceLT, Int.reduceLE, Int.reduceEq, reduceCtorEq, Int.natCast_zero, Int.natCast_one, Int.cast_ofNat_Int, Bool.not_not, false_eq_decide, true_eq_decide, hread0, hreadk, read_cons0, read_consk, astore_h0, astore_hk, hget0, hgetk, hset0, hsetk, hlen, hcat, Nat.add_assoc, Nat.add_zero, Nat.zero_add, List.length_append, and_true, true_and, AV.flat, g4, get_app g4, read_get g4, read_app g4, hxo, one_solid hxo, one_cells hxo, *, -hK, -hc, -hj, -W, -kJ, -g0, -g1, -g3, -hps, -back2, -hl1, -hgi, -hgl, -hx, -hgx, -ow, -hxp, -hq1, -c1, -hzl, -hJl] | with_reducible refine IfB_dec (fun h => ?_) (fun h => ?_) | with_reducible refine Guard_dec (fun h => ?_) (fun h => ?_) | with_reducible refine Guard_ndec (fun h => ?_) (fun h => ?_) | with_reducible refine Guard_not (fun h => ?_) (fun h => ?_) | with_reducible refine IfB_ndec (fun h => ?_) (fun h => ?_) | with_reducible refine IfB_not (fun h => ?_) (fun h => ?_) | with_reducible refine Guard_split (fun h => ?_) (fun h => ?_) | with_reducible refine IfB_split (fun h => ?_) (fun h => ?_))
  refine append_own (k := 1) (xs := tktE.cells t) (ow.keep0 (Keep.app none J2 _)) se31 az38 td38 (asrc_sl tk31 (Vs.sl (vs_at (st := .full) (by simp; exact ⟨rfl, rfl⟩) rfl rfl))) rfl (by decide) (by rw [Enc.row_length]; show (ll.length * 12 + 12) * 120 ≤ _; omega) (by rw [Enc.row_length]; show ll.length * 12 + 12 ≤ _; omega) (by simp; omega) ?_
  intro v2 J3 ov2 k2 hn2
  have hv2 := ov2.one
  have o2 : OwnE tktE (H.length + 2) J3 v2 (ll ++ [t]) := by unfold OwnE; rw [Enc.row_append, Enc.row_one]; exact ov2
  have hz2 := fun b (hb : v2.blk = some b) => hn2 b hb
  have z3 := k2.get (get_app g3 _) (hps i x hx)
  have z4 : J3[J2.length]? = some (⟨t.cs, 0, .full⟩ : Blk) := k2.get (by simp; rfl) (fun e => by have := ow.lt e; omega)
  unfold Tkt.cs at z4
  have hp3 : J3[H.length + 2]? = J2[H.length + 2]? := by rw [k2.at_ _ (by have := W.lt; simp; omega) (fun e => hxp e), List.getElem?_append_left W.lt]
  have rd3 : J3.read (H.length + 2) i 1 = some [x] := by have := W.read hx; unfold Heap.read at this ⊢; rw [hp3]; exact this
  obtain ⟨sq1, sq2⟩ := own_sc o2
  obtain ⟨st, rest, hst, w1⟩ := W.store (T' := T) hx hp3 (te := 31) (by simp only [asize, td31, Option.map_some]) sq1 sq2
  have kk : Keep x.blk J2 J3 := (Keep.weak (Keep.app none J2 _)).trans k2
  have W2 := W.upd hx hgx kk o2 (fun b hb => (hn2 b hb).imp id (fun h => by simp only [List.length_append] at h; omega)) rest st hst
  rw [List.set_set] at W2
  have hJ3 : H.length + 4 ≤ J3.length := by have := k2.len; simp only [List.length_append] at this; omega
  have y0 : J3[H.length]? = some (⟨[.int .i64 nx, boxE.lst bs], 0, .full⟩ : Blk) := kk.get g0 (fun e => by have := ow.ge e; omega)
  have y1 : J3[H.length + 1]? = some (⟨[.int .i64 0, .nils], 0, .full⟩ : Blk) := kk.get g1 (fun e => by have := ow.ge e; omega)
  have kJ3 : Keep none H (List.set J3 (H.length + 2) ⟨qs.set i v2 ++ rest, 1, st⟩) := ⟨by rw [List.length_set]; omega, fun b hb _ => by
    rw [List.getElem?_set_ne (by omega), kk.at_ _ (by omega) (fun e => by have := ow.ge e; omega)]; exact kJ.at_ b hb (by simp)⟩
  have hps2 : ∀ (j : Nat) (z : AV), (qs.set i v2)[j]? = some z → z.blk ≠ some (H.length + 3) := fun j z hz => by
    by_cases e : i = j
    · subst e
      rw [List.getElem?_set_self (List.getElem?_eq_some_iff.1 hx).1] at hz
      cases hz
      intro e2
      rcases hn2 _ e2 with h | h
      · exact hps i x hx h
      · simp only [List.length_append] at h; omega
    · rw [List.getElem?_set_ne e] at hz
      exact hps j z hz
  generalize hG3 : (List.set J3 (H.length + 2) ⟨qs.set i v2 ++ rest, 1, st⟩ : Heap) = J4 at *
  have y4 : J4[H.length]? = some (⟨[.int .i64 nx, boxE.lst bs], 0, .full⟩ : Blk) := by rw [← hG3, List.getElem?_set_ne (by omega)]; exact y0
  have y5 : J4[H.length + 1]? = some (⟨[.int .i64 0, .nils], 0, .full⟩ : Blk) := by rw [← hG3, List.getElem?_set_ne (by omega)]; exact y1
  have y6 : J4[H.length + 3]? = some (⟨[.int .i64 nx, .sl (H.length + 2) 0 bs.length none], 0, .full⟩ : Blk) := by rw [← hG3, List.getElem?_set_ne (by omega)]; exact z3
  clear hG3 k2 hn2 kk y0 y1 o2 ov2 hz2 W rd hst hp3 hps
  repeat' (first | simp only [go_sem, Nat.reduceLT, Nat.reduceEqDiff, Nat.reduceAdd, Nat.reduceMul, Nat.reduceSub, Nat.reduceLeDiff, Int.reduceToNat, Int.reduceNeg, Int.reduceLT, Int.reduceLE, Int.reduceEq, reduceCtorEq, Int.natCast_zero, Int.natCast_one, Int.cast_ofNat_Int, Bool.not_not, false_eq_decide, true_eq_decide, hread0, hreadk, read_cons0, read_consk, astore_h0, astore_hk, hget0, hgetk, hset0, hsetk, hlen, hcat, Nat.add_assoc, Nat.add_zero, Nat.zero_add, List.length_append, and_true, true_and, AV.flat, z3, get_app z3, read_get z3, read_app z3, z4, get_app z4, read_get z4, read_app z4, hxo, one_solid hxo, one_cells hxo, hv2, one_solid hv2, one_cells hv2, *, -hK, -hc, -hj, -kJ, -g0, -g1, -g3, -back2, -hl1, -hgi, -hgl, -hx, -hgx, -ow, -hxp, -hq1, -c1, -hzl, -hJl, -W2, -kJ3, -hps2, -y4, -y5, -y6, -hJ3] | with_reducible refine IfB_dec (fun h => ?_) (fun h => ?_) | with_reducible refine Guard_dec (fun h => ?_) (fun h => ?_) | with_reducible refine Guard_ndec (fun h => ?_) (fun h => ?_) | with_reducible refine Guard_not (fun h => ?_) (fun h => ?_) | with_reducible refine IfB_ndec (fun h => ?_) (fun h => ?_) | with_reducible refine IfB_not (fun h => ?_) (fun h => ?_) | with_reducible refine Guard_split (fun h => ?_) (fun h => ?_) | with_reducible refine IfB_split (fun h => ?_) (fun h => ?_))
  exact back2 _ _ _ (by (repeat (first | exact hs | refine hA _ _ _ (by decide) ?_))) (by simp only [go_sem, Nat.reduceLT, Nat.reduceEqDiff, Nat.reduceAdd, Nat.reduceMul, Nat.reduceSub, Nat.reduceLeDiff, Int.reduceToNat, Int.reduceNeg, Int.reduceLT, Int.reduceLE, Int.reduceEq, reduceCtorEq]) kJ3 y4 y5 y6 W2 hps2 (by repeat (first | exact hAf | refine hA0 _ _ _ (by decide) ?_))
end Go.Proofs.Ytkmkhiipiflelaa
