import Derived.Test.YtinejbofnjndnaaAdmQ
set_option linter.unusedSimpArgs false
set_option linter.unusedVariables false
set_option maxRecDepth 100000
set_option maxHeartbeats 4000000
namespace Go.Proofs.Ytinejbofnjndnaa
open Go Go.Proofs Go.Proofs.PI
theorem stat_loose (xs : List Stat) : ∀ a ∈ statE.row xs, a.loose = true := fun a ha => by
  obtain ⟨x, _, hx⟩ := List.mem_flatMap.1 ha
  simp only [statE_cells, List.mem_cons, List.not_mem_nil, or_false] at hx; rcases hx with rfl | rfl | rfl | rfl | rfl | rfl <;> rfl
theorem Stat.nofz (s : Stat) : Nofz s.av := .agg _ (Nofz.row fun x hx => by
  simp only [List.mem_cons, List.not_mem_nil, or_false] at hx; rcases hx with rfl | rfl | rfl | rfl | rfl | rfl <;> exact .cell _ rfl)
theorem Adm.lend {a : Adm} {m : Nat} {H : Heap} {v : AV} (h : OwnE statE m H v a.ts) : Thaw 0 H (.agg [v, .bool a.dr]) a.av := Thaw.agg_row ⟨(h.thaw (by decide)).mono (Nat.zero_le _), .bool _, trivial⟩
theorem Adm.same {H : Heap} (a : Adm) : Thaw 0 H a.av a.av := Thaw.agg_row ⟨.lst _ _, .bool _, trivial⟩
theorem Cmd.same {H : Heap} (c : Cmd) : Thaw 0 H c.av c.av := Thaw.agg_row ⟨.int _ _, .int _ _, .lst _ _, .str _, .int _ _, .int _ _, .int _ _, .int _ _, trivial⟩
theorem Res.same {H : Heap} (r : Res) : Thaw 0 H r.av r.av := Thaw.agg_row ⟨.int _ _, .lst _ _, .int _ _, trivial⟩
section
variable {m : Nat} {H : Heap} {v : AV} {a : Adm}
theorem statA_lent (h : OwnE statE m H v a.ts) (t : Int) (hn : a.ts.length ≤ 1000000) : WC Try.prog 15 [.agg [v, .bool a.dr], .int .i64 t] H fun w H' => w = .tup [(statL a t).1.av, .int .i64 (statL a t).2] ∧ H' = H :=
  WC_lend_val (args := [.agg [v, .bool a.dr], .int .i64 t]) (args' := [a.av, .int .i64 t]) ⟨Adm.lend h, .int _ _, trivial⟩ (Nofz.tup2 (Stat.nofz _) (.cell _ rfl)) (fun J => stat_spec a t hn J)
theorem sumA_lent (h : OwnE statE m H v a.ts) (hn : a.ts.length ≤ 1000000) : WC Try.prog 18 [.agg [v, .bool a.dr]] H fun w H' => w = .tup [(sumL a).1.av, .int .i64 (sumL a).2] ∧ H' = H :=
  WC_lend_val (args := [.agg [v, .bool a.dr]]) (args' := [a.av]) ⟨Adm.lend h, trivial⟩ (Nofz.tup2 (Stat.nofz _) (.cell _ rfl)) (fun J => sum_spec a hn J)
theorem takes_lent (h : OwnE statE m H v a.ts) (hn : a.ts.length ≤ 1000000) : WC Try.prog 17 [.agg [v, .bool a.dr]] H fun w H' => w = .tup [.bool (takesL a).1, .int .i64 (takesL a).2] ∧ H' = H :=
  WC_lend_val (args := [.agg [v, .bool a.dr]]) (args' := [a.av]) ⟨Adm.lend h, trivial⟩ (Nofz.tup2 (.cell _ rfl) (.cell _ rfl)) (fun J => takes_spec a hn J)
theorem checkA_lent (h : OwnE statE m H v a.ts) (hn : a.ts.length ≤ 1000000) : WC Try.prog 11 [.agg [v, .bool a.dr]] H fun w H' => w = .int .i64 (admE a) ∧ H' = H :=
  WC_lend_val (args := [.agg [v, .bool a.dr]]) (args' := [a.av]) ⟨Adm.lend h, trivial⟩ (.cell _ rfl) (fun J => admCheck_spec a (by omega) J)
theorem sameA_refl (a : Adm) (hn : a.ts.length ≤ 140737488355328) (H : Heap) : WC Try.prog 13 [a.av, a.av] H fun r H' => r = .bool true ∧ H' = H := by
  refine WC_val fun K hK => ?_
  unfold Adm.av
  refine WC_of_body hT Try.func13 rfl (by simp [Try.f13]) (by simp [Try.f13]) (wx_sound hT _ ?_)
  simp only [Try.f13]
  repeat' (first | simp only [go_sem, Nat.reduceLT, Nat.reduceEqDiff, Nat.reduceAdd, Nat.reduceMul, Nat.reduceSub, Nat.reduceLeDiff, Int.reduceToNat, Int.reduceNeg, Int.reduceLT, Int.reduceLE, Int.reduceEq, reduceCtorEq, Int.natCast_zero, Int.natCast_one, Int.cast_ofNat_Int, Bool.not_not, false_eq_decide, true_eq_decide, hread0, hreadk, read_cons0, read_consk, astore_h0, astore_hk, hget0, hgetk, hset0, hsetk, hlen, hcat, Nat.add_assoc, Nat.add_zero, Nat.zero_add, List.length_append, and_true, true_and, AV.flat, *, -hK] | with_reducible refine IfB_dec (fun h => ?_) (fun h => ?_) | with_reducible refine Guard_dec (fun h => ?_) (fun h => ?_) | with_reducible refine Guard_ndec (fun h => ?_) (fun h => ?_) | with_reducible refine Guard_not (fun h => ?_) (fun h => ?_) | with_reducible refine IfB_ndec (fun h => ?_) (fun h => ?_) | with_reducible refine IfB_not (fun h => ?_) (fun h => ?_) | with_reducible refine Guard_split (fun h => ?_) (fun h => ?_) | with_reducible refine IfB_split (fun h => ?_) (fun h => ?_))
  generalize hG : (H ++ [(⟨[statE.lst a.ts, .bool a.dr], 0, .full⟩ : Blk), (⟨[statE.lst a.ts, .bool a.dr], 0, .full⟩ : Blk)] : Heap) = G
  have g0 : G[H.length]? = some ⟨[statE.lst a.ts, .bool a.dr], 0, .full⟩ := by rw [← hG, hget0]; rfl
  have g1 : G[H.length + 1]? = some ⟨[statE.lst a.ts, .bool a.dr], 0, .full⟩ := by rw [← hG, hgetk]; rfl
  have kG : Keep none H G := by rw [← hG]; exact Keep.app _ _ _
  clear hG
  refine WX_loopS [2, 3] (fun k fr' H' => ∃ i : Nat, k = a.ts.length - i ∧ i ≤ a.ts.length ∧ fr'.get 5 = .int .i64 i ∧ H' = G) a.ts.length ⟨0, rfl, by omega, by simp only [go_sem, Nat.reduceLT, Nat.reduceEqDiff, Nat.reduceAdd, Nat.reduceMul, Nat.reduceSub, Nat.reduceLeDiff, Int.reduceToNat, Int.reduceNeg, Int.reduceLT, Int.reduceLE, Int.reduceEq, reduceCtorEq]; rfl, rfl⟩ ?_
  rintro k fr' H1 A R hA hs hg hR ⟨i, rfl, hi, f5, rfl⟩
  have s2 := hg 2 (by decide)
  have s3 := hg 3 (by decide)
  simp only [Fr.get_put, Fr.get_init, List.getD_cons_zero, List.getD_cons_succ, Nat.reduceEqDiff, if_true, if_false] at s2 s3
  refine wx_sound hT _ ?_
  by_cases hlt : i < a.ts.length
  · have i3 : (i : Int) < a.ts.length := by omega
    have e1 := at_enc (E := statE) (T := T) (k := .i64) se22 hlt rfl
    have e3 := inc_id hlt hn
    repeat' (first | simp only [go_sem, Nat.reduceLT, Nat.reduceEqDiff, Nat.reduceAdd, Nat.reduceMul, Nat.reduceSub, Nat.reduceLeDiff, Int.reduceToNat, Int.reduceNeg, Int.reduceLT, Int.reduceLE, Int.reduceEq, reduceCtorEq, Int.natCast_zero, Int.natCast_one, Int.cast_ofNat_Int, Bool.not_not, false_eq_decide, true_eq_decide, hread0, hreadk, read_cons0, read_consk, astore_h0, astore_hk, hget0, hgetk, hset0, hsetk, hlen, hcat, Nat.add_assoc, Nat.add_zero, Nat.zero_add, List.length_append, and_true, true_and, AV.flat, g0, get_app g0, read_get g0, read_app g0, g1, get_app g1, read_get g1, read_app g1, statE_cells, *, -hK, -kG] | with_reducible refine IfB_dec (fun h => ?_) (fun h => ?_) | with_reducible refine Guard_dec (fun h => ?_) (fun h => ?_) | with_reducible refine Guard_ndec (fun h => ?_) (fun h => ?_) | with_reducible refine Guard_not (fun h => ?_) (fun h => ?_) | with_reducible refine IfB_ndec (fun h => ?_) (fun h => ?_) | with_reducible refine IfB_not (fun h => ?_) (fun h => ?_) | with_reducible refine Guard_split (fun h => ?_) (fun h => ?_) | with_reducible refine IfB_split (fun h => ?_) (fun h => ?_))
    refine WX_rows hT hmix [(0, none), (1, none), (2, none), (3, none), (4, none), (5, none), (6, none), (7, none), (8, none), (9, none), (10, none)] (by kernel_rfl) ?_
    repeat' (first | simp only [go_sem, Nat.reduceLT, Nat.reduceEqDiff, Nat.reduceAdd, Nat.reduceMul, Nat.reduceSub, Nat.reduceLeDiff, Int.reduceToNat, Int.reduceNeg, Int.reduceLT, Int.reduceLE, Int.reduceEq, reduceCtorEq, Int.natCast_zero, Int.natCast_one, Int.cast_ofNat_Int, Bool.not_not, false_eq_decide, true_eq_decide, hread0, hreadk, read_cons0, read_consk, astore_h0, astore_hk, hget0, hgetk, hset0, hsetk, hlen, hcat, Nat.add_assoc, Nat.add_zero, Nat.zero_add, List.length_append, and_true, true_and, AV.flat, g0, get_app g0, read_get g0, read_app g0, g1, get_app g1, read_get g1, read_app g1, statE_cells, *, -hK, -kG] | with_reducible refine IfB_dec (fun h => ?_) (fun h => ?_) | with_reducible refine Guard_dec (fun h => ?_) (fun h => ?_) | with_reducible refine Guard_ndec (fun h => ?_) (fun h => ?_) | with_reducible refine Guard_not (fun h => ?_) (fun h => ?_) | with_reducible refine IfB_ndec (fun h => ?_) (fun h => ?_) | with_reducible refine IfB_not (fun h => ?_) (fun h => ?_) | with_reducible refine Guard_split (fun h => ?_) (fun h => ?_) | with_reducible refine IfB_split (fun h => ?_) (fun h => ?_))
    exact hR _ _ (by (repeat (first | exact hs | refine hA _ _ _ (by decide) ?_))) (a.ts.length - (i + 1)) (by omega) ⟨i + 1, rfl, by omega, by simp only [go_sem, Nat.reduceLT, Nat.reduceEqDiff, Nat.reduceAdd, Nat.reduceMul, Nat.reduceSub, Nat.reduceLeDiff, Int.reduceToNat, Int.reduceNeg, Int.reduceLT, Int.reduceLE, Int.reduceEq, reduceCtorEq], rfl⟩
  have i3 : ¬ (i : Int) < a.ts.length := by omega
  repeat' (first | simp only [go_sem, Nat.reduceLT, Nat.reduceEqDiff, Nat.reduceAdd, Nat.reduceMul, Nat.reduceSub, Nat.reduceLeDiff, Int.reduceToNat, Int.reduceNeg, Int.reduceLT, Int.reduceLE, Int.reduceEq, reduceCtorEq, Int.natCast_zero, Int.natCast_one, Int.cast_ofNat_Int, Bool.not_not, false_eq_decide, true_eq_decide, hread0, hreadk, read_cons0, read_consk, astore_h0, astore_hk, hget0, hgetk, hset0, hsetk, hlen, hcat, Nat.add_assoc, Nat.add_zero, Nat.zero_add, List.length_append, and_true, true_and, AV.flat, g0, get_app g0, read_get g0, read_app g0, g1, get_app g1, read_get g1, read_app g1, *, -hK, -kG] | with_reducible refine IfB_dec (fun h => ?_) (fun h => ?_) | with_reducible refine Guard_dec (fun h => ?_) (fun h => ?_) | with_reducible refine Guard_ndec (fun h => ?_) (fun h => ?_) | with_reducible refine Guard_not (fun h => ?_) (fun h => ?_) | with_reducible refine IfB_ndec (fun h => ?_) (fun h => ?_) | with_reducible refine IfB_not (fun h => ?_) (fun h => ?_) | with_reducible refine Guard_split (fun h => ?_) (fun h => ?_) | with_reducible refine IfB_split (fun h => ?_) (fun h => ?_))
  exact hK _ _ (.bool _) kG
theorem same_lentA (h : OwnE statE m H v a.ts) (hn : a.ts.length ≤ 1000000) : WC Try.prog 13 [.agg [v, .bool a.dr], a.av] H fun w H' => w = .bool true ∧ H' = H :=
  WC_lend_val (args := [.agg [v, .bool a.dr], a.av]) (args' := [a.av, a.av]) ⟨Adm.lend h, Adm.same a, trivial⟩ (.cell _ rfl) (fun J => sameA_refl a (by omega) J)
theorem nofzA {m : Nat} {H : Heap} {w : AV} {xs : List Stat} (o : OwnE statE m H w xs) (d : Bool) (e : Int) : Nofz (.tup [.agg [w, .bool d], .int .i64 e]) :=
  Nofz.tup2 (.agg _ (Nofz.row fun x hx => by
    simp only [List.mem_cons, List.not_mem_nil, or_false] at hx; rcases hx with rfl | rfl; exact .cell _ (own_loose o); exact .cell _ rfl)) (.cell _ rfl)
theorem count_lent (h : OwnE statE m H v a.ts) (c : Cmd) (r : Res) (l : List Chg) (hn : a.ts.length ≤ 1000000) (hk : c.keys.length ≤ 1000) (hri : r.its.length ≤ 1000) (hl : l.length ≤ 140737488355328) (ho : ∀ x ∈ l, x.Ok) :
    WC Try.prog 10 [.agg [v, .bool a.dr], c.av, r.av, chgE.lst l] H fun w H' => ∃ v', w = .tup [.agg [v', .bool (countL a c r l).1.dr], .int .i64 (countL a c r l).2] ∧ OwnE statE H.length H' v' (countL a c r l).1.ts ∧ Keep none H H' := by
  refine (WC_lend (Q := fun w I => ∃ v', w = .tup [.agg [v', .bool (countL a c r l).1.dr], .int .i64 (countL a c r l).2] ∧ OwnE statE H.shut.length I v' (countL a c r l).1.ts) (args := [.agg [v, .bool a.dr], c.av, r.av, chgE.lst l]) (args' := [a.av, c.av, r.av, chgE.lst l]) ⟨Adm.lend h, Cmd.same c, Res.same r, .lst _ _, trivial⟩ ((count_own a c r l hn hk hri hl ho _).mono ?_)).mono ?_
  · rintro w I ⟨⟨v', rfl, o⟩, k⟩
    exact ⟨nofzA o _ _, v', rfl, o⟩
  · rintro w H' ⟨I, ⟨v', rfl, o⟩, rfl⟩
    exact ⟨v', rfl, Own.back o (stat_loose _), back_keep _ _⟩
theorem drain_lent (h : OwnE statE m H v a.ts) (hn : a.ts.length ≤ 1000000) : WC Try.prog 16 [.agg [v, .bool a.dr]] H fun w H' => ∃ v', w = .tup [.agg [v', .bool (drainL a).1.dr], .int .i64 (drainL a).2] ∧ OwnE statE H.length H' v' (drainL a).1.ts ∧ Keep none H H' := by
  refine (WC_lend (Q := fun w I => ∃ v', w = .tup [.agg [v', .bool (drainL a).1.dr], .int .i64 (drainL a).2] ∧ OwnE statE H.shut.length I v' (drainL a).1.ts) (args := [.agg [v, .bool a.dr]]) (args' := [a.av]) ⟨Adm.lend h, trivial⟩ ((drain_own a hn _).mono ?_)).mono ?_
  · rintro w I ⟨⟨v', rfl, o⟩, k⟩
    exact ⟨nofzA o _ _, v', rfl, o⟩
  · rintro w H' ⟨I, ⟨v', rfl, o⟩, rfl⟩
    exact ⟨v', rfl, Own.back o (stat_loose _), back_keep _ _⟩
end
theorem refDrain_spec (a : Adm) (hn : a.ts.length ≤ 1000000) (H : Heap) : WC Try.prog 21 [a.av] H fun w H' => w = .tup [(drainL a).1.av, .int .i64 (drainL a).2] ∧ H' = H :=
  WC_froze (Q := fun r => r = _) ((refDrain_own a hn H).mono fun w H' ⟨⟨v, h1, h2⟩, h3⟩ => ⟨_, h1 ▸ Thaw.tup_row ⟨Thaw.agg_row ⟨h2.thaw (by decide), .bool _, trivial⟩, .int _ _, trivial⟩, h3, rfl⟩)
theorem countL_len (a : Adm) (c : Cmd) (r : Res) (l : List Chg) : (countL a c r l).1.ts.length ≤ a.ts.length := by
  rcases countL_cases a c r l with ⟨_, h⟩ | ⟨_, h⟩
  · rw [h]; simp [adm0]
  · rw [h]; simp [moreL_len]
theorem drainL_len (a : Adm) : (drainL a).1.ts.length ≤ a.ts.length := by
  unfold drainL; split
  · exact Nat.le_refl _
  · simp [adm0]
theorem newL_len (t : Int) : (newL t).1.ts.length ≤ 4 := by
  unfold newL; split
  · simp [adm0]
  · simp; omega
theorem sum_takes (a : Adm) : ((sumL a).2 = 0 ∧ takesL a = (!a.dr, 0) ∧ admE a = 0) ∨ ((sumL a).2 = 8 ∧ takesL a = (false, 8) ∧ admE a = 8) := by
  by_cases h : a.may
  · left; unfold sumL takesL; rw [if_pos h, if_pos h, admE_ok h]; exact ⟨rfl, rfl, rfl⟩
  · right; unfold sumL takesL; rw [if_neg h, if_neg h, admE_bad h]; exact ⟨rfl, rfl, rfl⟩
structure SpI (p0 pO mX pX mD pD : Nat) (A O X D : List AV) (v vx vd : AV) (ts : List Stat) (nx nd : Nat) (G : Heap) : Prop where
  ov : OwnE statE 0 G v ts
  ox : ∃ xs, xs.length = nx ∧ OwnE statE mX G vx xs
  od : ∃ ds, ds.length = nd ∧ OwnE statE mD G vd ds
  gA : G[p0]? = some ⟨A, 0, .full⟩
  gO : G[pO]? = some ⟨O, 0, .full⟩
  gX : G[pX]? = some ⟨X, 0, .full⟩
  gD : G[pD]? = some ⟨D, 0, .full⟩
theorem SpI.setX {p0 pO mX pX mD pD : Nat} {A O X D : List AV} {v vx vd : AV} {ts : List Stat} {nx nd : Nat} {G : Heap} (h : SpI p0 pO mX pX mD pD A O X D v vx vd ts nx nd G)
    (hv : ∀ b, v.blk = some b → b < mX) (hx : ∀ b, vx.blk = some b → b < pX) (h0 : p0 < mX) (hO : pO < mX) (h1 : pX < mD) (h2 : mD ≤ pD) {j : Nat} (hj : j < nx) :
    ∃ b o G2, aindexAddr T 22 vx (.int .i64 j) = some (.ptr b o) ∧ astore T G 3 (.ptr b o) (.int .i64 (-77)) = some G2 ∧ SpI p0 pO mX pX mD pD A O X D v vx vd ts nx nd G2 := by
  obtain ⟨xs, hl, ox⟩ := h.ox
  obtain ⟨b, o, G2, e1, e2, e3, o2, k2, e4⟩ := ox.setF (E := statE) (by decide) se22 (i := j) (by omega) (k := .i64) rfl (j := 0) (by decide) (x := xs[j].upd 0 (-77)) (c := .int .i64 (-77)) (upd_cells _ _ 0 (by decide)) (te := 3) (by simp only [asize, td3, Option.map_some]) rfl rfl
  have hb1 := ox.ge e4
  have hb2 := hx b e4
  obtain ⟨ds, hld, od⟩ := h.od
  refine ⟨b, o, G2, e1, e3, ⟨h.ov.keep k2 (fun q hq e => by cases hq; have := hv _ e; omega), ⟨_, by rw [List.length_set]; exact hl, o2⟩, ⟨ds, hld, od.keep k2 (fun q hq e => by cases hq; have := od.ge e; omega)⟩, k2.get h.gA (by simp; omega), k2.get h.gO (by simp; omega), k2.get h.gX (by simp; omega), k2.get h.gD (by simp; omega)⟩⟩
theorem SpI.setD {p0 pO mX pX mD pD : Nat} {A O X D : List AV} {v vx vd : AV} {ts : List Stat} {nx nd : Nat} {G : Heap} (h : SpI p0 pO mX pX mD pD A O X D v vx vd ts nx nd G)
    (hv : ∀ b, v.blk = some b → b < mX) (hx : ∀ b, vx.blk = some b → b < pX) (hd : ∀ b, vd.blk = some b → b < pD) (h0 : p0 < mX) (hO : pO < mX) (h1 : pX < mD) (h2 : mX ≤ pX) {j : Nat} (hj : j < nd) :
    ∃ b o G2, aindexAddr T 22 vd (.int .i64 j) = some (.ptr b o) ∧ astore T G 3 (.ptr b o) (.int .i64 (-77)) = some G2 ∧ SpI p0 pO mX pX mD pD A O X D v vx vd ts nx nd G2 := by
  obtain ⟨xs, hl, ox⟩ := h.ox
  obtain ⟨ds, hld, od⟩ := h.od
  obtain ⟨b, o, G2, e1, e2, e3, o2, k2, e4⟩ := od.setF (E := statE) (by decide) se22 (i := j) (by omega) (k := .i64) rfl (j := 0) (by decide) (x := ds[j].upd 0 (-77)) (c := .int .i64 (-77)) (upd_cells _ _ 0 (by decide)) (te := 3) (by simp only [asize, td3, Option.map_some]) rfl rfl
  have hb1 := od.ge e4
  have hb2 := hd b e4
  refine ⟨b, o, G2, e1, e3, ⟨h.ov.keep k2 (fun q hq e => by cases hq; have := hv _ e; omega), ⟨xs, hl, ox.keep k2 (fun q hq e => by cases hq; have := hx _ e; omega)⟩, ⟨_, by rw [List.length_set]; exact hld, o2⟩, k2.get h.gA (by simp; omega), k2.get h.gO (by simp; omega), k2.get h.gX (by simp; omega), k2.get h.gD (by simp; omega)⟩⟩
end Go.Proofs.Ytinejbofnjndnaa
