import Derived.Test.YtkmkhiipiflelaaTktTk
import Derived.Test.YtkmkhiipiflelaaTicketV
import Derived.Test.YtkmkhiipiflelaaPiZ
set_option linter.unusedSimpArgs false
set_option linter.unusedVariables false
set_option maxRecDepth 100000
set_option maxHeartbeats 4000000
namespace Go.Proofs.Ytkmkhiipiflelaa
open Go Go.Proofs Go.Proofs.PI
theorem key0_spec (H : Heap) : WC Try.prog 13 [.int .i64 0] H fun r H' => r = .str [97] ∧ H' = H := xC_val hTl hmix ftOk (k := 40) rfl (by kernel_rfl) H
theorem key1_spec (H : Heap) : WC Try.prog 13 [.int .i64 1] H fun r H' => r = .str [98] ∧ H' = H := xC_val hTl hmix ftOk (k := 40) rfl (by kernel_rfl) H
def tktG (ks : List (List UInt8)) : Tkt := ⟨0, 1, ⟨1, 0, ks, [], 0, 0, 0, 0⟩, 0, 0⟩
theorem get_spec (ks : List (List UInt8)) (H : Heap) : WC Try.prog 12 [Enc.str.lst ks] H fun r H' => r = (tktG ks).av ∧ H' = H := by
  refine WC_val fun K hK => ?_
  refine WC_of_body hT Try.func12 rfl (by simp [Try.f12]) (by simp [Try.f12]) (wx_sound hT _ ?_)
  simp only [Try.f12]
  repeat' (first | simp only [go_sem, Nat.reduceLT, Nat.reduceEqDiff, Nat.reduceAdd, Nat.reduceMul, Nat.reduceSub, Nat.reduceLeDiff, Int.reduceToNat, Int.reduceNeg, Int.reduceLT, Int.reduceLE, Int.reduceEq, reduceCtorEq, Int.natCast_zero, Int.natCast_one, Int.cast_ofNat_Int, Bool.not_not, false_eq_decide, true_eq_decide, hread0, hreadk, read_cons0, read_consk, astore_h0, astore_hk, hget0, hgetk, hset0, hsetk, hlen, hcat, Nat.add_assoc, Nat.add_zero, Nat.zero_add, List.length_append, and_true, true_and, AV.flat, *, -hK] | with_reducible refine IfB_dec (fun h => ?_) (fun h => ?_) | with_reducible refine Guard_dec (fun h => ?_) (fun h => ?_) | with_reducible refine Guard_ndec (fun h => ?_) (fun h => ?_) | with_reducible refine Guard_not (fun h => ?_) (fun h => ?_) | with_reducible refine IfB_ndec (fun h => ?_) (fun h => ?_) | with_reducible refine IfB_not (fun h => ?_) (fun h => ?_) | with_reducible refine Guard_split (fun h => ?_) (fun h => ?_) | with_reducible refine IfB_split (fun h => ?_) (fun h => ?_))
  refine hK _ _ ?_ (Keep.app _ _ _)
  exact Thaw.agg_row ⟨.int _ _, .int _ _, .int _ _, .int _ _, .lst _ _, .str _, .int _ _, .int _ _, .int _ _, .int _ _, .int _ _, .int _ _, trivial⟩
def xq0 : Que := ⟨0, [[], []]⟩
def xq1 : Que := (putR xq0 (tktG [[97]])).1
def xq2 : Que := (putR xq1 (tktG [[97], [98]])).1
def xq3 : Que := (putR xq2 (tktG [[98]])).1
def xq4 : Que := (takeR xq3 0).1
def xq5 : Que := (takeR xq4 1).1
theorem xe0 : newR 2 = (xq0, 0) := by kernel_rfl
theorem xe1 : putR xq0 (tktG [[97]]) = (xq1, 0, 0) := by kernel_rfl
theorem xe2 : putR xq1 (tktG [[97], [98]]) = (xq2, 1, 0) := by kernel_rfl
theorem xe3 : putR xq2 (tktG [[98]]) = (xq3, 2, 0) := by kernel_rfl
theorem xe4 : takeR xq3 0 = (xq4, tktG [[97]], 0) := by kernel_rfl
theorem xe5 : readyL xq4 = [0, 1] := by kernel_rfl
theorem xe6 : queE xq4 = 0 := by kernel_rfl
theorem xe7 : takeR xq4 1 = (xq5, (tktG [[97], [98]]).at_ 1, 0) := by kernel_rfl
theorem xe8 : readyL xq5 = [1] := by kernel_rfl
theorem xe9 : queE xq5 = 0 := by kernel_rfl
theorem xeA : takeR xq5 0 = (que0, tkt0, 6) := by kernel_rfl
theorem xeB : takeR xq5 2 = (que0, tkt0, 2) := by kernel_rfl
theorem xeC : newR 5 = (que0, 2) := by kernel_rfl
theorem xeD : putR xq5 tkt0 = (que0, 0, 8) := by kernel_rfl
instance (b : List (List Tkt)) : Decidable (qFit b) := by unfold qFit; infer_instance
theorem nf0 : qFit xq0.bx := of_decide_eq_true (by kernel_rfl)
theorem nf1 : qFit xq1.bx := of_decide_eq_true (by kernel_rfl)
theorem nf2 : qFit xq2.bx := of_decide_eq_true (by kernel_rfl)
theorem nf3 : qFit xq3.bx := of_decide_eq_true (by kernel_rfl)
theorem nf4 : qFit xq4.bx := of_decide_eq_true (by kernel_rfl)
theorem nf5 : qFit xq5.bx := of_decide_eq_true (by kernel_rfl)
theorem ticketNames_walk (H : Heap) (avs : List AV) (h : InpAll T H 9 [] avs) : WC Try.prog 4 avs H fun v _ => v = .bool true := by
  obtain rfl := h.nil
  refine WC_of_K fun K hK => ?_
  have c0 := fun J => new_spec 2 J
  have c5 := fun J => new_spec 5 J
  have p1 := fun J => put_spec xq0 (tktG [[97]]) nf0 (by simp [tktG]) (by simp [tktG]) J
  have p2 := fun J => put_spec xq1 (tktG [[97], [98]]) nf1 (by simp [tktG]) (by simp [tktG]) J
  have p3 := fun J => put_spec xq2 (tktG [[98]]) nf2 (by simp [tktG]) (by simp [tktG]) J
  have pd := fun J => put_spec xq5 tkt0 nf5 (by simp [tkt0, cmd0]) (by simp [tkt0, cmd0]) J
  have t0 := fun J => take_spec xq3 0 nf3 J
  have t1 := fun J => take_spec xq4 1 nf4 J
  have t2 := fun J => take_spec xq5 0 nf5 J
  have t3 := fun J => take_spec xq5 2 nf5 J
  have r4 := fun J => readyAll_spec xq4 nf4 J
  have r5 := fun J => readyAll_spec xq5 nf5 J
  have gt := fun ks J => get_spec ks J
  rw [xe0] at c0
  rw [xeC] at c5
  rw [xe1] at p1
  rw [xe2] at p2
  rw [xe3] at p3
  rw [xeD] at pd
  rw [xe4] at t0
  rw [xe7] at t1
  rw [xeA] at t2
  rw [xeB] at t3
  rw [xe5, xe6] at r4
  rw [xe8, xe9] at r5
  unfold Que.av Tkt.av at *
  simp only [tktG, tkt0, cmd0, Tkt.at_, que0] at c0 c5 p1 p2 p3 pd t0 t1 t2 t3 r4 r5 gt
  generalize xq0 = q0 at *
  generalize xq1 = q1 at *
  generalize xq2 = q2 at *
  generalize xq3 = q3 at *
  generalize xq4 = q4 at *
  generalize xq5 = q5 at *
  refine WC_of_body hT Try.func4 rfl (by simp [Try.f4]) (by simp [Try.f4]) (wx_sound hT _ ?_)
  simp only [Try.f4]
  repeat' (first | simp only [go_sem, Nat.reduceLT, Nat.reduceEqDiff, Nat.reduceAdd, Nat.reduceMul, Nat.reduceSub, Nat.reduceLeDiff, Int.reduceToNat, Int.reduceNeg, Int.reduceLT, Int.reduceLE, Int.reduceEq, reduceCtorEq, Int.natCast_zero, Int.natCast_one, Int.cast_ofNat_Int, Bool.not_not, false_eq_decide, true_eq_decide, hread0, hreadk, read_cons0, read_consk, astore_h0, astore_hk, hget0, hgetk, hset0, hsetk, hlen, hcat, Nat.add_assoc, Nat.add_zero, Nat.zero_add, List.length_append, and_true, true_and, AV.flat, *, -hK, -c0, -c5, -p1, -p2, -p3, -pd, -t0, -t1, -t2, -t3, -r4, -r5, -gt] | refine WC.call (c0 _) ?_ | with_reducible refine IfB_dec (fun h => ?_) (fun h => ?_) | with_reducible refine Guard_dec (fun h => ?_) (fun h => ?_) | with_reducible refine Guard_ndec (fun h => ?_) (fun h => ?_) | with_reducible refine Guard_not (fun h => ?_) (fun h => ?_) | with_reducible refine IfB_ndec (fun h => ?_) (fun h => ?_) | with_reducible refine IfB_not (fun h => ?_) (fun h => ?_) | with_reducible refine Guard_split (fun h => ?_) (fun h => ?_) | with_reducible refine IfB_split (fun h => ?_) (fun h => ?_))
  generalize hJ9 : (H ++ [(⟨[.int .i64 q0.next, boxE.lst q0.bx], 0, .full⟩ : Blk)] : Heap) = J0
  have g0 : J0[H.length]? = some (⟨[.int .i64 q0.next, boxE.lst q0.bx], 0, .full⟩ : Blk) := by rw [← hJ9, hget0]; rfl
  have hJ0 := (List.getElem?_eq_some_iff.1 g0).1
  clear hJ9
  refine WX_rows hT hmix [(0, none), (1, some [false]), (2, none), (3, some [true, true, false]), (4, some [true, true, true, true]), (5, none), (6, none), (7, none), (8, none), (9, some [false, false, true, true, true, true, true, true, true])] (by kernel_rfl) ?_
  repeat' (first | simp only [go_sem, Nat.reduceLT, Nat.reduceEqDiff, Nat.reduceAdd, Nat.reduceMul, Nat.reduceSub, Nat.reduceLeDiff, Int.reduceToNat, Int.reduceNeg, Int.reduceLT, Int.reduceLE, Int.reduceEq, reduceCtorEq, Int.natCast_zero, Int.natCast_one, Int.cast_ofNat_Int, Bool.not_not, false_eq_decide, true_eq_decide, hread0, hreadk, read_cons0, read_consk, astore_h0, astore_hk, hget0, hgetk, hset0, hsetk, hlen, hcat, Nat.add_assoc, Nat.add_zero, Nat.zero_add, List.length_append, and_true, true_and, AV.flat, g0, get_app g0, read_get g0, read_app g0, *, -hK, -c0, -c5, -p1, -p2, -p3, -pd, -t0, -t1, -t2, -t3, -r4, -r5, -gt, -hJ0] | refine WC.call (key0_spec _) ?_ | with_reducible refine IfB_dec (fun h => ?_) (fun h => ?_) | with_reducible refine Guard_dec (fun h => ?_) (fun h => ?_) | with_reducible refine Guard_ndec (fun h => ?_) (fun h => ?_) | with_reducible refine Guard_not (fun h => ?_) (fun h => ?_) | with_reducible refine IfB_ndec (fun h => ?_) (fun h => ?_) | with_reducible refine IfB_not (fun h => ?_) (fun h => ?_) | with_reducible refine Guard_split (fun h => ?_) (fun h => ?_) | with_reducible refine IfB_split (fun h => ?_) (fun h => ?_))
  refine WC_freezeE [Enc.str.lst [[97]]] (m := J0.length) (E := Enc.str) (v := .sl J0.length 0 1 none) (xs := [[97]]) (Own.whole (st := .full) (by omega) (by simp; exact ⟨rfl, rfl⟩) rfl rfl) (by decide) ⟨.here, trivial⟩ ?_
  intro G hF
  have gG : G[H.length]? = some (⟨[.int .i64 q0.next, boxE.lst q0.bx], 0, .full⟩ : Blk) := by rw [hF.other _ (by simp only [AV.blk, ne_eq, Option.some.injEq]; omega)]; exact get_app g0 _
  have hGl := (List.getElem?_eq_some_iff.1 gG).1
  clear hF
  refine (gt _ G).mono ?_
  rintro _ J9 ⟨rfl, hJ9⟩
  replace hJ9 := hJ9.symm
  subst hJ9
  repeat' (first | simp only [go_sem, Nat.reduceLT, Nat.reduceEqDiff, Nat.reduceAdd, Nat.reduceMul, Nat.reduceSub, Nat.reduceLeDiff, Int.reduceToNat, Int.reduceNeg, Int.reduceLT, Int.reduceLE, Int.reduceEq, reduceCtorEq, Int.natCast_zero, Int.natCast_one, Int.cast_ofNat_Int, Bool.not_not, false_eq_decide, true_eq_decide, hread0, hreadk, read_cons0, read_consk, astore_h0, astore_hk, hget0, hgetk, hset0, hsetk, hlen, hcat, Nat.add_assoc, Nat.add_zero, Nat.zero_add, List.length_append, and_true, true_and, AV.flat, gG, get_app gG, read_get gG, read_app gG, gG, get_app gG, read_get gG, read_app gG, astore_get gG, astore_app gG, get_set gG, get_set_app gG, read_set gG, read_set_app gG, astore_set gG, astore_set_app gG, List.set_set, hget0s, hgetks, hread0s, hreadks, List.length_set, *, -hK, -c0, -c5, -p1, -p2, -p3, -pd, -t0, -t1, -t2, -t3, -r4, -r5, -gt, -g0, -hGl, -hJ0] | refine WC.call (p1 _) ?_ | with_reducible refine IfB_dec (fun h => ?_) (fun h => ?_) | with_reducible refine Guard_dec (fun h => ?_) (fun h => ?_) | with_reducible refine Guard_ndec (fun h => ?_) (fun h => ?_) | with_reducible refine Guard_not (fun h => ?_) (fun h => ?_) | with_reducible refine IfB_ndec (fun h => ?_) (fun h => ?_) | with_reducible refine IfB_not (fun h => ?_) (fun h => ?_) | with_reducible refine Guard_split (fun h => ?_) (fun h => ?_) | with_reducible refine IfB_split (fun h => ?_) (fun h => ?_))
  generalize hJ9 : (List.set G H.length ⟨[.int .i64 q1.next, boxE.lst q1.bx], 0, .full⟩ : Heap) = J1
  have g1 : J1[H.length]? = some (⟨[.int .i64 q1.next, boxE.lst q1.bx], 0, .full⟩ : Blk) := by rw [← hJ9]; exact List.getElem?_set_self hGl
  have hJ1 := (List.getElem?_eq_some_iff.1 g1).1
  clear hJ9 gG hGl g0 hJ0 G
  repeat' (first | simp only [go_sem, Nat.reduceLT, Nat.reduceEqDiff, Nat.reduceAdd, Nat.reduceMul, Nat.reduceSub, Nat.reduceLeDiff, Int.reduceToNat, Int.reduceNeg, Int.reduceLT, Int.reduceLE, Int.reduceEq, reduceCtorEq, Int.natCast_zero, Int.natCast_one, Int.cast_ofNat_Int, Bool.not_not, false_eq_decide, true_eq_decide, hread0, hreadk, read_cons0, read_consk, astore_h0, astore_hk, hget0, hgetk, hset0, hsetk, hlen, hcat, Nat.add_assoc, Nat.add_zero, Nat.zero_add, List.length_append, and_true, true_and, AV.flat, g1, get_app g1, read_get g1, read_app g1, *, -hK, -c0, -c5, -p1, -p2, -p3, -pd, -t0, -t1, -t2, -t3, -r4, -r5, -gt, -hJ1] | with_reducible refine IfB_dec (fun h => ?_) (fun h => ?_) | with_reducible refine Guard_dec (fun h => ?_) (fun h => ?_) | with_reducible refine Guard_ndec (fun h => ?_) (fun h => ?_) | with_reducible refine Guard_not (fun h => ?_) (fun h => ?_) | with_reducible refine IfB_ndec (fun h => ?_) (fun h => ?_) | with_reducible refine IfB_not (fun h => ?_) (fun h => ?_) | with_reducible refine Guard_split (fun h => ?_) (fun h => ?_) | with_reducible refine IfB_split (fun h => ?_) (fun h => ?_))
  refine WX_rows hT hmix [(0, none), (1, some [false]), (2, some [true, false]), (3, none), (4, some [true, true, true, false]), (5, some [true, true, true, true, true]), (6, none), (7, none), (8, none), (9, none), (10, some [false, false, true, true, true, true, true, true, true, true])] (by kernel_rfl) ?_
  repeat' (first | simp only [go_sem, Nat.reduceLT, Nat.reduceEqDiff, Nat.reduceAdd, Nat.reduceMul, Nat.reduceSub, Nat.reduceLeDiff, Int.reduceToNat, Int.reduceNeg, Int.reduceLT, Int.reduceLE, Int.reduceEq, reduceCtorEq, Int.natCast_zero, Int.natCast_one, Int.cast_ofNat_Int, Bool.not_not, false_eq_decide, true_eq_decide, hread0, hreadk, read_cons0, read_consk, astore_h0, astore_hk, hget0, hgetk, hset0, hsetk, hlen, hcat, Nat.add_assoc, Nat.add_zero, Nat.zero_add, List.length_append, and_true, true_and, AV.flat, g1, get_app g1, read_get g1, read_app g1, *, -hK, -c0, -c5, -p1, -p2, -p3, -pd, -t0, -t1, -t2, -t3, -r4, -r5, -gt, -hJ1] | refine WC.call (key0_spec _) ?_ | refine WC.call (key1_spec _) ?_ | with_reducible refine IfB_dec (fun h => ?_) (fun h => ?_) | with_reducible refine Guard_dec (fun h => ?_) (fun h => ?_) | with_reducible refine Guard_ndec (fun h => ?_) (fun h => ?_) | with_reducible refine Guard_not (fun h => ?_) (fun h => ?_) | with_reducible refine IfB_ndec (fun h => ?_) (fun h => ?_) | with_reducible refine IfB_not (fun h => ?_) (fun h => ?_) | with_reducible refine Guard_split (fun h => ?_) (fun h => ?_) | with_reducible refine IfB_split (fun h => ?_) (fun h => ?_))
  refine WC_freezeE [Enc.str.lst [[97], [98]]] (m := J1.length) (E := Enc.str) (v := .sl J1.length 0 2 none) (xs := [[97], [98]]) (Own.whole (st := .full) (by omega) (by simp; exact ⟨rfl, rfl⟩) rfl rfl) (by decide) ⟨.here, trivial⟩ ?_
  intro G hF
  have gG : G[H.length]? = some (⟨[.int .i64 q1.next, boxE.lst q1.bx], 0, .full⟩ : Blk) := by rw [hF.other _ (by simp only [AV.blk, ne_eq, Option.some.injEq]; omega)]; exact get_app g1 _
  have hGl := (List.getElem?_eq_some_iff.1 gG).1
  clear hF
  refine (gt _ G).mono ?_
  rintro _ J9 ⟨rfl, hJ9⟩
  replace hJ9 := hJ9.symm
  subst hJ9
  repeat' (first | simp only [go_sem, Nat.reduceLT, Nat.reduceEqDiff, Nat.reduceAdd, Nat.reduceMul, Nat.reduceSub, Nat.reduceLeDiff, Int.reduceToNat, Int.reduceNeg, Int.reduceLT, Int.reduceLE, Int.reduceEq, reduceCtorEq, Int.natCast_zero, Int.natCast_one, Int.cast_ofNat_Int, Bool.not_not, false_eq_decide, true_eq_decide, hread0, hreadk, read_cons0, read_consk, astore_h0, astore_hk, hget0, hgetk, hset0, hsetk, hlen, hcat, Nat.add_assoc, Nat.add_zero, Nat.zero_add, List.length_append, and_true, true_and, AV.flat, gG, get_app gG, read_get gG, read_app gG, gG, get_app gG, read_get gG, read_app gG, astore_get gG, astore_app gG, get_set gG, get_set_app gG, read_set gG, read_set_app gG, astore_set gG, astore_set_app gG, List.set_set, hget0s, hgetks, hread0s, hreadks, List.length_set, *, -hK, -c0, -c5, -p1, -p2, -p3, -pd, -t0, -t1, -t2, -t3, -r4, -r5, -gt, -g1, -hGl, -hJ1] | refine WC.call (p2 _) ?_ | with_reducible refine IfB_dec (fun h => ?_) (fun h => ?_) | with_reducible refine Guard_dec (fun h => ?_) (fun h => ?_) | with_reducible refine Guard_ndec (fun h => ?_) (fun h => ?_) | with_reducible refine Guard_not (fun h => ?_) (fun h => ?_) | with_reducible refine IfB_ndec (fun h => ?_) (fun h => ?_) | with_reducible refine IfB_not (fun h => ?_) (fun h => ?_) | with_reducible refine Guard_split (fun h => ?_) (fun h => ?_) | with_reducible refine IfB_split (fun h => ?_) (fun h => ?_))
  generalize hJ9 : (List.set G H.length ⟨[.int .i64 q2.next, boxE.lst q2.bx], 0, .full⟩ : Heap) = J2
  have g2 : J2[H.length]? = some (⟨[.int .i64 q2.next, boxE.lst q2.bx], 0, .full⟩ : Blk) := by rw [← hJ9]; exact List.getElem?_set_self hGl
  have hJ2 := (List.getElem?_eq_some_iff.1 g2).1
  clear hJ9 gG hGl g1 hJ1 G
  repeat' (first | simp only [go_sem, Nat.reduceLT, Nat.reduceEqDiff, Nat.reduceAdd, Nat.reduceMul, Nat.reduceSub, Nat.reduceLeDiff, Int.reduceToNat, Int.reduceNeg, Int.reduceLT, Int.reduceLE, Int.reduceEq, reduceCtorEq, Int.natCast_zero, Int.natCast_one, Int.cast_ofNat_Int, Bool.not_not, false_eq_decide, true_eq_decide, hread0, hreadk, read_cons0, read_consk, astore_h0, astore_hk, hget0, hgetk, hset0, hsetk, hlen, hcat, Nat.add_assoc, Nat.add_zero, Nat.zero_add, List.length_append, and_true, true_and, AV.flat, g2, get_app g2, read_get g2, read_app g2, *, -hK, -c0, -c5, -p1, -p2, -p3, -pd, -t0, -t1, -t2, -t3, -r4, -r5, -gt, -hJ2] | with_reducible refine IfB_dec (fun h => ?_) (fun h => ?_) | with_reducible refine Guard_dec (fun h => ?_) (fun h => ?_) | with_reducible refine Guard_ndec (fun h => ?_) (fun h => ?_) | with_reducible refine Guard_not (fun h => ?_) (fun h => ?_) | with_reducible refine IfB_ndec (fun h => ?_) (fun h => ?_) | with_reducible refine IfB_not (fun h => ?_) (fun h => ?_) | with_reducible refine Guard_split (fun h => ?_) (fun h => ?_) | with_reducible refine IfB_split (fun h => ?_) (fun h => ?_))
  refine WX_rows hT hmix [(0, none), (1, some [false]), (2, none), (3, some [true, true, false]), (4, some [true, true, true, true]), (5, none), (6, none), (7, none), (8, none), (9, some [false, false, true, true, true, true, true, true, true])] (by kernel_rfl) ?_
  repeat' (first | simp only [go_sem, Nat.reduceLT, Nat.reduceEqDiff, Nat.reduceAdd, Nat.reduceMul, Nat.reduceSub, Nat.reduceLeDiff, Int.reduceToNat, Int.reduceNeg, Int.reduceLT, Int.reduceLE, Int.reduceEq, reduceCtorEq, Int.natCast_zero, Int.natCast_one, Int.cast_ofNat_Int, Bool.not_not, false_eq_decide, true_eq_decide, hread0, hreadk, read_cons0, read_consk, astore_h0, astore_hk, hget0, hgetk, hset0, hsetk, hlen, hcat, Nat.add_assoc, Nat.add_zero, Nat.zero_add, List.length_append, and_true, true_and, AV.flat, g2, get_app g2, read_get g2, read_app g2, *, -hK, -c0, -c5, -p1, -p2, -p3, -pd, -t0, -t1, -t2, -t3, -r4, -r5, -gt, -hJ2] | refine WC.call (key1_spec _) ?_ | with_reducible refine IfB_dec (fun h => ?_) (fun h => ?_) | with_reducible refine Guard_dec (fun h => ?_) (fun h => ?_) | with_reducible refine Guard_ndec (fun h => ?_) (fun h => ?_) | with_reducible refine Guard_not (fun h => ?_) (fun h => ?_) | with_reducible refine IfB_ndec (fun h => ?_) (fun h => ?_) | with_reducible refine IfB_not (fun h => ?_) (fun h => ?_) | with_reducible refine Guard_split (fun h => ?_) (fun h => ?_) | with_reducible refine IfB_split (fun h => ?_) (fun h => ?_))
  refine WC_freezeE [Enc.str.lst [[98]]] (m := J2.length) (E := Enc.str) (v := .sl J2.length 0 1 none) (xs := [[98]]) (Own.whole (st := .full) (by omega) (by simp; exact ⟨rfl, rfl⟩) rfl rfl) (by decide) ⟨.here, trivial⟩ ?_
  intro G hF
  have gG : G[H.length]? = some (⟨[.int .i64 q2.next, boxE.lst q2.bx], 0, .full⟩ : Blk) := by rw [hF.other _ (by simp only [AV.blk, ne_eq, Option.some.injEq]; omega)]; exact get_app g2 _
  have hGl := (List.getElem?_eq_some_iff.1 gG).1
  clear hF
  refine (gt _ G).mono ?_
  rintro _ J9 ⟨rfl, hJ9⟩
  replace hJ9 := hJ9.symm
  subst hJ9
  repeat' (first | simp only [go_sem, Nat.reduceLT, Nat.reduceEqDiff, Nat.reduceAdd, Nat.reduceMul, Nat.reduceSub, Nat.reduceLeDiff, Int.reduceToNat, Int.reduceNeg, Int.reduceLT, Int.reduceLE, Int.reduceEq, reduceCtorEq, Int.natCast_zero, Int.natCast_one, Int.cast_ofNat_Int, Bool.not_not, false_eq_decide, true_eq_decide, hread0, hreadk, read_cons0, read_consk, astore_h0, astore_hk, hget0, hgetk, hset0, hsetk, hlen, hcat, Nat.add_assoc, Nat.add_zero, Nat.zero_add, List.length_append, and_true, true_and, AV.flat, gG, get_app gG, read_get gG, read_app gG, gG, get_app gG, read_get gG, read_app gG, astore_get gG, astore_app gG, get_set gG, get_set_app gG, read_set gG, read_set_app gG, astore_set gG, astore_set_app gG, List.set_set, hget0s, hgetks, hread0s, hreadks, List.length_set, *, -hK, -c0, -c5, -p1, -p2, -p3, -pd, -t0, -t1, -t2, -t3, -r4, -r5, -gt, -g2, -hGl, -hJ2] | refine WC.call (p3 _) ?_ | with_reducible refine IfB_dec (fun h => ?_) (fun h => ?_) | with_reducible refine Guard_dec (fun h => ?_) (fun h => ?_) | with_reducible refine Guard_ndec (fun h => ?_) (fun h => ?_) | with_reducible refine Guard_not (fun h => ?_) (fun h => ?_) | with_reducible refine IfB_ndec (fun h => ?_) (fun h => ?_) | with_reducible refine IfB_not (fun h => ?_) (fun h => ?_) | with_reducible refine Guard_split (fun h => ?_) (fun h => ?_) | with_reducible refine IfB_split (fun h => ?_) (fun h => ?_))
  generalize hJ9 : (List.set G H.length ⟨[.int .i64 q3.next, boxE.lst q3.bx], 0, .full⟩ : Heap) = J3
  have g3 : J3[H.length]? = some (⟨[.int .i64 q3.next, boxE.lst q3.bx], 0, .full⟩ : Blk) := by rw [← hJ9]; exact List.getElem?_set_self hGl
  have hJ3 := (List.getElem?_eq_some_iff.1 g3).1
  clear hJ9 gG hGl g2 hJ2 G
  have z3 : (List.set J3 H.length (⟨[.int .i64 q4.next, boxE.lst q4.bx], 0, .full⟩ : Blk) ++ [(⟨[.int .i64 0, .int .u8 0, .int .u8 0, .int .i64 0, .nils, .str [], .int .u32 0, .int .i64 0, .int .u64 0, .int .u64 0, .int .i64 0, .int .i64 0], 0, .full⟩ : Blk)])[J3.length]? = some (⟨[.int .i64 0, .int .u8 0, .int .u8 0, .int .i64 0, .nils, .str [], .int .u32 0, .int .i64 0, .int .u64 0, .int .u64 0, .int .i64 0, .int .i64 0], 0, .full⟩ : Blk) := by rw [List.getElem?_append_right (by simp)]; simp
  repeat' (first | simp only [go_sem, Nat.reduceLT, Nat.reduceEqDiff, Nat.reduceAdd, Nat.reduceMul, Nat.reduceSub, Nat.reduceLeDiff, Int.reduceToNat, Int.reduceNeg, Int.reduceLT, Int.reduceLE, Int.reduceEq, reduceCtorEq, Int.natCast_zero, Int.natCast_one, Int.cast_ofNat_Int, Bool.not_not, false_eq_decide, true_eq_decide, hread0, hreadk, read_cons0, read_consk, astore_h0, astore_hk, hget0, hgetk, hset0, hsetk, hlen, hcat, Nat.add_assoc, Nat.add_zero, Nat.zero_add, List.length_append, and_true, true_and, AV.flat, g3, get_app g3, read_get g3, read_app g3, astore_get g3, astore_app g3, get_set g3, get_set_app g3, read_set g3, read_set_app g3, astore_set g3, astore_set_app g3, List.set_set, hget0s, hgetks, hread0s, hreadks, List.length_set, z3, get_app z3, read_get z3, read_app z3, astore_get z3, astore_app z3, get_set z3, get_set_app z3, read_set z3, read_set_app z3, astore_set z3, astore_set_app z3, List.set_set, hget0s, hgetks, hread0s, hreadks, List.length_set, *, -hK, -c0, -c5, -p1, -p2, -p3, -pd, -t0, -t1, -t2, -t3, -r4, -r5, -gt, -hJ3] | refine WC.call (t0 _) ?_ | with_reducible refine IfB_dec (fun h => ?_) (fun h => ?_) | with_reducible refine Guard_dec (fun h => ?_) (fun h => ?_) | with_reducible refine Guard_ndec (fun h => ?_) (fun h => ?_) | with_reducible refine Guard_not (fun h => ?_) (fun h => ?_) | with_reducible refine IfB_ndec (fun h => ?_) (fun h => ?_) | with_reducible refine IfB_not (fun h => ?_) (fun h => ?_) | with_reducible refine Guard_split (fun h => ?_) (fun h => ?_) | with_reducible refine IfB_split (fun h => ?_) (fun h => ?_))
  generalize hJ9 : (List.set (List.set J3 H.length (⟨[.int .i64 q4.next, boxE.lst q4.bx], 0, .full⟩ : Blk) ++ [(⟨[.int .i64 0, .int .u8 0, .int .u8 0, .int .i64 0, .nils, .str [], .int .u32 0, .int .i64 0, .int .u64 0, .int .u64 0, .int .i64 0, .int .i64 0], 0, .full⟩ : Blk)]) J3.length (⟨[.int .i64 0, .int .u8 1, .int .u8 1, .int .i64 0, Enc.str.lst [[97]], .str [], .int .u32 0, .int .i64 0, .int .u64 0, .int .u64 0, .int .i64 0, .int .i64 0], 0, .full⟩ : Blk) : Heap) = J4
  have g4 : J4[H.length]? = some (⟨[.int .i64 q4.next, boxE.lst q4.bx], 0, .full⟩ : Blk) := by rw [← hJ9, List.getElem?_set_ne (by omega), List.getElem?_append_left (by simpa using hJ3), List.getElem?_set_self hJ3]
  have a4 : J4[J3.length]? = some (⟨[.int .i64 0, .int .u8 1, .int .u8 1, .int .i64 0, Enc.str.lst [[97]], .str [], .int .u32 0, .int .i64 0, .int .u64 0, .int .u64 0, .int .i64 0, .int .i64 0], 0, .full⟩ : Blk) := by rw [← hJ9, List.getElem?_set_self (by simp)]
  clear hJ9 z3 g3
  generalize J3.length = pa at *
  have hJ4 := (List.getElem?_eq_some_iff.1 a4).1
  clear J3
  have z4 : (List.set J4 H.length (⟨[.int .i64 q5.next, boxE.lst q5.bx], 0, .full⟩ : Blk) ++ [(⟨[.int .i64 0, .int .u8 0, .int .u8 0, .int .i64 0, .nils, .str [], .int .u32 0, .int .i64 0, .int .u64 0, .int .u64 0, .int .i64 0, .int .i64 0], 0, .full⟩ : Blk)])[J4.length]? = some (⟨[.int .i64 0, .int .u8 0, .int .u8 0, .int .i64 0, .nils, .str [], .int .u32 0, .int .i64 0, .int .u64 0, .int .u64 0, .int .i64 0, .int .i64 0], 0, .full⟩ : Blk) := by rw [List.getElem?_append_right (by simp)]; simp
  repeat' (first | simp only [go_sem, Nat.reduceLT, Nat.reduceEqDiff, Nat.reduceAdd, Nat.reduceMul, Nat.reduceSub, Nat.reduceLeDiff, Int.reduceToNat, Int.reduceNeg, Int.reduceLT, Int.reduceLE, Int.reduceEq, reduceCtorEq, Int.natCast_zero, Int.natCast_one, Int.cast_ofNat_Int, Bool.not_not, false_eq_decide, true_eq_decide, hread0, hreadk, read_cons0, read_consk, astore_h0, astore_hk, hget0, hgetk, hset0, hsetk, hlen, hcat, Nat.add_assoc, Nat.add_zero, Nat.zero_add, List.length_append, and_true, true_and, AV.flat, g4, get_app g4, read_get g4, read_app g4, astore_get g4, astore_app g4, get_set g4, get_set_app g4, read_set g4, read_set_app g4, astore_set g4, astore_set_app g4, List.set_set, hget0s, hgetks, hread0s, hreadks, List.length_set, z4, get_app z4, read_get z4, read_app z4, astore_get z4, astore_app z4, get_set z4, get_set_app z4, read_set z4, read_set_app z4, astore_set z4, astore_set_app z4, List.set_set, hget0s, hgetks, hread0s, hreadks, List.length_set, *, -hK, -c0, -c5, -p1, -p2, -p3, -pd, -t0, -t1, -t2, -t3, -r4, -r5, -gt, -hJ4, -hJ3, -a4] | refine WC.call (r4 _) ?_ | refine WC.call (t1 _) ?_ | with_reducible refine IfB_dec (fun h => ?_) (fun h => ?_) | with_reducible refine Guard_dec (fun h => ?_) (fun h => ?_) | with_reducible refine Guard_ndec (fun h => ?_) (fun h => ?_) | with_reducible refine Guard_not (fun h => ?_) (fun h => ?_) | with_reducible refine IfB_ndec (fun h => ?_) (fun h => ?_) | with_reducible refine IfB_not (fun h => ?_) (fun h => ?_) | with_reducible refine Guard_split (fun h => ?_) (fun h => ?_) | with_reducible refine IfB_split (fun h => ?_) (fun h => ?_))
  generalize hJ9 : (List.set (List.set J4 H.length (⟨[.int .i64 q5.next, boxE.lst q5.bx], 0, .full⟩ : Blk) ++ [(⟨[.int .i64 0, .int .u8 0, .int .u8 0, .int .i64 0, .nils, .str [], .int .u32 0, .int .i64 0, .int .u64 0, .int .u64 0, .int .i64 0, .int .i64 0], 0, .full⟩ : Blk)]) J4.length (⟨[.int .i64 1, .int .u8 1, .int .u8 1, .int .i64 0, Enc.str.lst [[97], [98]], .str [], .int .u32 0, .int .i64 0, .int .u64 0, .int .u64 0, .int .i64 0, .int .i64 0], 0, .full⟩ : Blk) : Heap) = J5
  have g5 : J5[H.length]? = some (⟨[.int .i64 q5.next, boxE.lst q5.bx], 0, .full⟩ : Blk) := by rw [← hJ9, List.getElem?_set_ne (by omega), List.getElem?_append_left (by simp; omega), List.getElem?_set_self (by omega)]
  have a5 : J5[pa]? = some (⟨[.int .i64 0, .int .u8 1, .int .u8 1, .int .i64 0, Enc.str.lst [[97]], .str [], .int .u32 0, .int .i64 0, .int .u64 0, .int .u64 0, .int .i64 0, .int .i64 0], 0, .full⟩ : Blk) := by rw [← hJ9, List.getElem?_set_ne (by omega), List.getElem?_append_left (by simp; omega), List.getElem?_set_ne (by omega)]; exact a4
  have b5 : J5[J4.length]? = some (⟨[.int .i64 1, .int .u8 1, .int .u8 1, .int .i64 0, Enc.str.lst [[97], [98]], .str [], .int .u32 0, .int .i64 0, .int .u64 0, .int .u64 0, .int .i64 0, .int .i64 0], 0, .full⟩ : Blk) := by rw [← hJ9, List.getElem?_set_self (by simp)]
  clear hJ9 z4 g4 a4
  generalize J4.length = pb at *
  have hJ5 := (List.getElem?_eq_some_iff.1 b5).1
  clear J4
  repeat' (first | simp only [go_sem, Nat.reduceLT, Nat.reduceEqDiff, Nat.reduceAdd, Nat.reduceMul, Nat.reduceSub, Nat.reduceLeDiff, Int.reduceToNat, Int.reduceNeg, Int.reduceLT, Int.reduceLE, Int.reduceEq, reduceCtorEq, Int.natCast_zero, Int.natCast_one, Int.cast_ofNat_Int, Bool.not_not, false_eq_decide, true_eq_decide, hread0, hreadk, read_cons0, read_consk, astore_h0, astore_hk, hget0, hgetk, hset0, hsetk, hlen, hcat, Nat.add_assoc, Nat.add_zero, Nat.zero_add, List.length_append, and_true, true_and, AV.flat, g5, get_app g5, read_get g5, read_app g5, astore_get g5, astore_app g5, get_set g5, get_set_app g5, read_set g5, read_set_app g5, astore_set g5, astore_set_app g5, List.set_set, hget0s, hgetks, hread0s, hreadks, List.length_set, *, -hK, -c0, -c5, -p1, -p2, -p3, -pd, -t0, -t1, -t2, -t3, -r4, -r5, -gt, -hJ4, -hJ3, -hJ5, -a5, -b5] | refine WC.call (r5 _) ?_ | refine WC.call (t2 _) ?_ | refine WC.call (t3 _) ?_ | refine WC.call (c5 _) ?_ | with_reducible refine IfB_dec (fun h => ?_) (fun h => ?_) | with_reducible refine Guard_dec (fun h => ?_) (fun h => ?_) | with_reducible refine Guard_ndec (fun h => ?_) (fun h => ?_) | with_reducible refine Guard_not (fun h => ?_) (fun h => ?_) | with_reducible refine IfB_ndec (fun h => ?_) (fun h => ?_) | with_reducible refine IfB_not (fun h => ?_) (fun h => ?_) | with_reducible refine Guard_split (fun h => ?_) (fun h => ?_) | with_reducible refine IfB_split (fun h => ?_) (fun h => ?_))
  refine WC_freezeE [.agg [.int .i64 q5.next, boxE.lst q5.bx], .agg [.int .i64 0, .int .u8 0, .int .u8 0, .int .i64 0, Enc.str.lst [], .str [], .int .u32 0, .int .i64 0, .int .u64 0, .int .u64 0, .int .i64 0, .int .i64 0]] (m := 0) (E := Enc.str) (v := .nils) (xs := []) (OwnE.nils _ _ _) (by decide) ⟨.same _, FrzR.agg [.int .i64 0, .int .u8 0, .int .u8 0, .int .i64 0, .nils, .str [], .int .u32 0, .int .i64 0, .int .u64 0, .int .u64 0, .int .i64 0, .int .i64 0] [.int .i64 0, .int .u8 0, .int .u8 0, .int .i64 0, Enc.str.lst [], .str [], .int .u32 0, .int .i64 0, .int .u64 0, .int .u64 0, .int .i64 0, .int .i64 0] rfl (FrzR.row (l := [.int .i64 0, .int .u8 0, .int .u8 0, .int .i64 0, .nils, .str [], .int .u32 0, .int .i64 0, .int .u64 0, .int .u64 0, .int .i64 0, .int .i64 0]) (l' := [.int .i64 0, .int .u8 0, .int .u8 0, .int .i64 0, Enc.str.lst [], .str [], .int .u32 0, .int .i64 0, .int .u64 0, .int .u64 0, .int .i64 0, .int .i64 0]) ⟨.same _, .same _, .same _, .same _, .here, .same _, .same _, .same _, .same _, .same _, .same _, .same _, trivial⟩).2, trivial⟩ ?_
  intro G hF
  have a6 : G[pa]? = some (⟨[.int .i64 0, .int .u8 1, .int .u8 1, .int .i64 0, Enc.str.lst [[97]], .str [], .int .u32 0, .int .i64 0, .int .u64 0, .int .u64 0, .int .i64 0, .int .i64 0], 0, .full⟩ : Blk) := by rw [hF.other _ (by simp [AV.blk])]; exact get_app a5 _
  have b6 : G[pb]? = some (⟨[.int .i64 1, .int .u8 1, .int .u8 1, .int .i64 0, Enc.str.lst [[97], [98]], .str [], .int .u32 0, .int .i64 0, .int .u64 0, .int .u64 0, .int .i64 0, .int .i64 0], 0, .full⟩ : Blk) := by rw [hF.other _ (by simp [AV.blk])]; exact get_app b5 _
  refine (pd G).mono ?_
  rintro _ J9 ⟨rfl, hJ9⟩
  replace hJ9 := hJ9.symm
  subst hJ9
  clear hF g5 a5 b5
  have a7 := get_app a6 [(⟨[.int .i64 0, boxE.lst []], 0, .full⟩ : Blk)]
  have b7 := get_app b6 [(⟨[.int .i64 0, boxE.lst []], 0, .full⟩ : Blk)]
  have e1 := at_enc (E := Enc.int .i64) (T := T) (xs := [1]) (i := 0) (k := .i64) (z := 0) se27 (by simp) rfl
  rw [int_cells] at e1
  simp only [List.getElem_cons_zero] at e1
  repeat' (first | simp only [go_sem, Nat.reduceLT, Nat.reduceEqDiff, Nat.reduceAdd, Nat.reduceMul, Nat.reduceSub, Nat.reduceLeDiff, Int.reduceToNat, Int.reduceNeg, Int.reduceLT, Int.reduceLE, Int.reduceEq, reduceCtorEq, Int.natCast_zero, Int.natCast_one, Int.cast_ofNat_Int, Bool.not_not, false_eq_decide, true_eq_decide, hread0, hreadk, read_cons0, read_consk, astore_h0, astore_hk, hget0, hgetk, hset0, hsetk, hlen, hcat, Nat.add_assoc, Nat.add_zero, Nat.zero_add, List.length_append, and_true, true_and, AV.flat, a6, get_app a6, read_get a6, read_app a6, b6, get_app b6, read_get b6, read_app b6, a7, get_app a7, read_get a7, read_app a7, b7, get_app b7, read_get b7, read_app b7, *, -hK, -c0, -c5, -p1, -p2, -p3, -pd, -t0, -t1, -t2, -t3, -r4, -r5, -gt, -hJ4, -hJ3, -hJ5] | refine WC.call (alive_spec _) ?_ | with_reducible refine IfB_dec (fun h => ?_) (fun h => ?_) | with_reducible refine Guard_dec (fun h => ?_) (fun h => ?_) | with_reducible refine Guard_ndec (fun h => ?_) (fun h => ?_) | with_reducible refine Guard_not (fun h => ?_) (fun h => ?_) | with_reducible refine IfB_ndec (fun h => ?_) (fun h => ?_) | with_reducible refine IfB_not (fun h => ?_) (fun h => ?_) | with_reducible refine Guard_split (fun h => ?_) (fun h => ?_) | with_reducible refine IfB_split (fun h => ?_) (fun h => ?_))
  exact hK _ _ rfl
end Go.Proofs.Ytkmkhiipiflelaa
