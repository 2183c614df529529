import Derived.Test.YtakllaigpjbgdaaLruF
set_option linter.unusedSimpArgs false
set_option linter.unusedVariables false
set_option maxRecDepth 100000
set_option maxHeartbeats 4000000
namespace Go.Proofs.Ytakllaigpjbgdaa
open Go Go.Proofs Go.Proofs.PI
/-! ### what the laws call -/
theorem add_spec (o : Ord) (hf : o.fit) (s : List UInt8) (H : Heap) : WC Try.prog 12 [o.av, .str s] H fun r H' => r = .tup [(addO o s).av, .int .i64 (addE o s)] ∧ H' = H :=
  WC_froze (Q := fun r => r = _) ((add_own o hf s H).mono fun r H' ⟨⟨a, e, h⟩, k⟩ => ⟨_, by rw [e]; exact Thaw.tup_row (l' := [_, _]) ⟨h.thaw, .int _ _, trivial⟩, k, rfl⟩)
theorem hit_spec (o : Ord) (hf : o.fit) (s : List UInt8) (H : Heap) : WC Try.prog 15 [o.av, .str s] H fun r H' => r = .tup [(hitO o s).av, .int .i64 (hitE o s)] ∧ H' = H :=
  WC_froze (Q := fun r => r = _) ((hit_own o hf s H).mono fun r H' ⟨⟨a, e, h⟩, k⟩ => ⟨_, by rw [e]; exact Thaw.tup_row (l' := [_, _]) ⟨h.thaw, .int _ _, trivial⟩, k, rfl⟩)
theorem del_spec (o : Ord) (hf : o.fit) (s : List UInt8) (H : Heap) : WC Try.prog 17 [o.av, .str s] H fun r H' => r = .tup [(delO o s).av, .int .i64 (hitE o s)] ∧ H' = H :=
  WC_froze (Q := fun r => r = _) ((del_own o hf s H).mono fun r H' ⟨⟨a, e, h⟩, k⟩ => ⟨_, by rw [e]; exact Thaw.tup_row (l' := [_, _]) ⟨h.thaw, .int _ _, trivial⟩, k, rfl⟩)
theorem fz_nils {H G : Heap} (h : Fz H .nils G) : G = H := List.ext_getElem? fun b => h.other b (by simp [AV.blk])
/-- The order without keys, as it is built. -/
theorem nil_arg {f : FuncId} {rest : List AV} {Q : AV → Heap → Prop} {H : Heap} (h : WC Try.prog f (ord0.av :: rest) H Q) : WC Try.prog f (.agg [.nils, .nils] :: rest) H Q := by
  refine WC_freezeE (E := Enc.str) (m := 0) (ord0.av :: rest) (v := .nils) (xs := []) (OwnE.nils _ _ _) (by decide) ⟨FrzR.agg [.nils, .nils] [Enc.str.lst [], Enc.str.lst []] rfl (FrzR.row (l := [.nils, .nils]) (l' := [Enc.str.lst [], Enc.str.lst []]) ⟨.here, .here, trivial⟩).2, ?_⟩ fun G hG => by rw [fz_nils hG]; exact h
  induction rest with
  | nil => trivial
  | cons a l ih => exact ⟨.same _, by
      clear ih h
      induction l with
      | nil => trivial
      | cons b l ih => exact ⟨.same _, ih⟩⟩
def ofL (o : Ord) : List (List UInt8) → Ord × Bool
  | [] => (o, true)
  | s :: l => if addE o s = 0 then ofL (addO o s) l else (o, false)
def OrdA (a b : AV) (o : Ord) : Prop := (a = Enc.str.lst o.t ∧ b = Enc.str.lst o.k) ∨ (o = ord0 ∧ a = .nils ∧ b = .nils)
theorem OrdA.one {a b : AV} {o : Ord} (h : OrdA a b o) : a.one = true ∧ b.one = true := by
  rcases h with ⟨rfl, rfl⟩ | ⟨_, rfl, rfl⟩ <;> exact ⟨rfl, rfl⟩
theorem OrdA.add {a b : AV} {o : Ord} (h : OrdA a b o) (hf : o.fit) (s : List UInt8) (H : Heap) : WC Try.prog 12 [.agg [a, b], .str s] H fun r H' => r = .tup [(addO o s).av, .int .i64 (addE o s)] ∧ H' = H := by
  rcases h with ⟨rfl, rfl⟩ | ⟨rfl, rfl, rfl⟩
  · exact add_spec o hf s H
  · exact nil_arg (add_spec ord0 hf s H)
theorem OrdA.thaw {a b : AV} {o : Ord} (h : OrdA a b o) (m : Nat) (H : Heap) : Thaw m H (.agg [a, b]) o.av := by
  rcases h with ⟨rfl, rfl⟩ | ⟨rfl, rfl, rfl⟩
  · exact Thaw.agg_row ⟨.atom _ rfl, .atom _ rfl, trivial⟩
  · exact Thaw.agg_row ⟨.nils, .nils, trivial⟩
theorem addO_tot {o : Ord} {s : List UInt8} (h : addE o s = 0) : tot (addO o s) ≤ 256 ∧ o.may := by
  unfold addO
  rw [if_pos h]
  unfold addE at h
  have hm : askE o s = 0 := by
    by_cases h0 : askE o s = 0
    · exact h0
    · rw [if_pos h0] at h; exact h
  rw [if_neg (by rw [hm]; decide)] at h
  have h1 := (askE_ok hm).1
  split at h
  · cases h
  · split at h
    · cases h
    · rename_i h2
      have := h1.1
      unfold tot
      simp only [List.length_cons]
      exact ⟨by omega, h1⟩
theorem of_spec (l : List (List UInt8)) (hl : l.length ≤ 140737488355328) (H : Heap) : WC Try.prog 18 [Enc.str.lst l] H fun r H' => r = .tup [(ofL ord0 l).1.av, .bool (ofL ord0 l).2] ∧ H' = H := by
  refine WC_val fun K hK => ?_
  refine WC_of_body hT Try.func18 rfl (by simp [Try.f18]) (by simp [Try.f18]) (wx_sound hT _ ?_)
  simp only [Try.f18]
  repeat' (first | simp only [go_sem, Nat.reduceLT, Nat.reduceEqDiff, Nat.reduceAdd, Nat.reduceMul, Nat.reduceSub, Nat.reduceLeDiff, Int.reduceToNat, Int.reduceNeg, Int.reduceLT, Int.reduceLE, Int.reduceEq, reduceCtorEq, Int.natCast_zero, Int.natCast_one, Int.cast_ofNat_Int, Bool.not_not, false_eq_decide, true_eq_decide, hread0, hreadk, read_cons0, read_consk, astore_h0, astore_hk, hget0, hgetk, hset0, hsetk, hlen, hcat, Nat.add_assoc, Nat.add_zero, Nat.zero_add, List.length_append, and_true, true_and, AV.flat, *, -hK] | with_reducible refine IfB_dec (fun h => ?_) (fun h => ?_) | with_reducible refine Guard_dec (fun h => ?_) (fun h => ?_) | with_reducible refine Guard_ndec (fun h => ?_) (fun h => ?_) | with_reducible refine Guard_not (fun h => ?_) (fun h => ?_) | with_reducible refine IfB_ndec (fun h => ?_) (fun h => ?_) | with_reducible refine IfB_not (fun h => ?_) (fun h => ?_) | with_reducible refine Guard_split (fun h => ?_) (fun h => ?_) | with_reducible refine IfB_split (fun h => ?_) (fun h => ?_))
  refine WX_loopS [0, 2, 4] (fun kn fr' J => ∃ (i : Nat) (o : Ord) (a b : AV), kn = l.length - i ∧ i ≤ l.length ∧ fr'.get 5 = .int .i64 i ∧ OrdA a b o ∧ tot o ≤ 256 ∧ ofL o (l.drop i) = ofL ord0 l ∧ J[H.length]? = some (⟨[.nils, .nils], 0, .full⟩ : Blk) ∧ J[H.length + 1]? = some (⟨[a, b], 0, .full⟩ : Blk) ∧ Keep none H J) l.length ⟨0, ord0, .nils, .nils, rfl, by omega, by simp only [go_sem, Nat.reduceLT, Nat.reduceEqDiff, Nat.reduceAdd, Nat.reduceMul, Nat.reduceSub, Nat.reduceLeDiff, Int.reduceToNat, Int.reduceNeg, Int.reduceLT, Int.reduceLE, Int.reduceEq, reduceCtorEq]; rfl, .inr ⟨rfl, rfl, rfl⟩, by decide, rfl, by rw [hget0]; rfl, by rw [hgetk]; rfl, Keep.app _ _ _⟩ ?_
  rintro kn fr' J A R hA hs hg hR ⟨i, o, a, b, rfl, hi, f5, ha, hto, hof, g0, g1, kJ⟩
  have s0 := hg 0 (by decide)
  have s2 := hg 2 (by decide)
  have s4 := hg 4 (by decide)
  simp only [Fr.get_put, Fr.get_init, List.getD_cons_zero, List.getD_cons_succ, Nat.reduceEqDiff, if_true, if_false] at s0 s2 s4
  refine wx_sound hT _ ?_
  obtain ⟨ha1, ha2⟩ := ha.one
  have hJl := (List.getElem?_eq_some_iff.1 g1).1
  by_cases hlt : i < l.length
  rotate_left
  · have i1 : ¬ (i : Int) < l.length := by omega
    rw [List.drop_of_length_le (by omega)] at hof
    simp only [ofL] at hof
    rw [← hof] at hK
    have th := ha.thaw H.length (List.set J H.length ⟨[a, b], 0, .full⟩)
    have kF : Keep none H (List.set J H.length ⟨[a, b], 0, .full⟩) := ⟨by rw [List.length_set]; exact kJ.len, fun c hc _ => by rw [List.getElem?_set_ne (by omega)]; exact kJ.at_ c hc (by simp)⟩
    repeat' (first | simp only [go_sem, Nat.reduceLT, Nat.reduceEqDiff, Nat.reduceAdd, Nat.reduceMul, Nat.reduceSub, Nat.reduceLeDiff, Int.reduceToNat, Int.reduceNeg, Int.reduceLT, Int.reduceLE, Int.reduceEq, reduceCtorEq, Int.natCast_zero, Int.natCast_one, Int.cast_ofNat_Int, Bool.not_not, false_eq_decide, true_eq_decide, hread0, hreadk, read_cons0, read_consk, astore_h0, astore_hk, hget0, hgetk, hset0, hsetk, hlen, hcat, Nat.add_assoc, Nat.add_zero, Nat.zero_add, List.length_append, and_true, true_and, AV.flat, ha1, one_solid ha1, one_cells ha1, ha2, one_solid ha2, one_cells ha2, g1, get_app g1, read_get g1, read_app g1, g0, get_app g0, read_get g0, read_app g0, astore_get g0, astore_app g0, get_set g0, get_set_app g0, read_set g0, read_set_app g0, astore_set g0, astore_set_app g0, List.set_set, hget0s, hgetks, hread0s, hreadks, List.length_set, *, -hK, -ha, -hof, -kJ, -hlt, -hto, -hJl, -th, -kF] | with_reducible refine IfB_dec (fun h => ?_) (fun h => ?_) | with_reducible refine Guard_dec (fun h => ?_) (fun h => ?_) | with_reducible refine Guard_ndec (fun h => ?_) (fun h => ?_) | with_reducible refine Guard_not (fun h => ?_) (fun h => ?_) | with_reducible refine IfB_ndec (fun h => ?_) (fun h => ?_) | with_reducible refine IfB_not (fun h => ?_) (fun h => ?_) | with_reducible refine Guard_split (fun h => ?_) (fun h => ?_) | with_reducible refine IfB_split (fun h => ?_) (fun h => ?_))
    exact hK _ _ (Thaw.tup_row ⟨th, .atom _ rfl, trivial⟩) kF
  have i1 : (i : Int) < l.length := by omega
  have e3 := inc_id hlt hl
  have e1 := at_enc (E := Enc.str) (T := T) (k := .i64) se22 hlt rfl
  rw [str_cells] at e1
  have had := fun J => ha.add ⟨by unfold tot at hto; omega, by unfold tot at hto; omega⟩ l[i] J
  rw [List.drop_eq_getElem_cons hlt, ofL] at hof
  have back : ∀ fr2 J2 o2, tot o2 ≤ 256 → ofL o2 (l.drop (i + 1)) = ofL ord0 l → A fr2 → fr2.get 5 = .int .i64 ((i + 1 : Nat) : Int) → J2[H.length]? = some (⟨[.nils, .nils], 0, .full⟩ : Blk) → J2[H.length + 1]? = some (⟨[Enc.str.lst o2.t, Enc.str.lst o2.k], 0, .full⟩ : Blk) → Keep none H J2 → R fr2 J2 := fun fr2 J2 o2 q0 q1 ha q2 q3 q4 q5 => hR fr2 J2 ha (l.length - (i + 1)) (by omega) ⟨i + 1, o2, _, _, rfl, by omega, q2, .inl ⟨rfl, rfl⟩, q0, q1, q3, q4, q5⟩
  clear hR
  generalize l[i] = s at *
  by_cases hE : addE o s = 0
  · rw [if_pos hE] at hof
    have htn := (addO_tot hE).1
    have back := fun fr2 J2 => back fr2 J2 _ htn hof
    rw [hE] at had
    generalize addO o s = o2 at *
    unfold Ord.av at had
    repeat' (first | simp only [go_sem, Nat.reduceLT, Nat.reduceEqDiff, Nat.reduceAdd, Nat.reduceMul, Nat.reduceSub, Nat.reduceLeDiff, Int.reduceToNat, Int.reduceNeg, Int.reduceLT, Int.reduceLE, Int.reduceEq, reduceCtorEq, Int.natCast_zero, Int.natCast_one, Int.cast_ofNat_Int, Bool.not_not, false_eq_decide, true_eq_decide, hread0, hreadk, read_cons0, read_consk, astore_h0, astore_hk, hget0, hgetk, hset0, hsetk, hlen, hcat, Nat.add_assoc, Nat.add_zero, Nat.zero_add, List.length_append, and_true, true_and, AV.flat, ha1, one_solid ha1, one_cells ha1, ha2, one_solid ha2, one_cells ha2, g1, get_app g1, read_get g1, read_app g1, *, -hK, -ha, -hof, -kJ, -hlt, -hto, -hJl, -had, -back, -hE, -htn, -g0] | with_reducible refine IfB_dec (fun h => ?_) (fun h => ?_) | with_reducible refine Guard_dec (fun h => ?_) (fun h => ?_) | with_reducible refine Guard_ndec (fun h => ?_) (fun h => ?_) | with_reducible refine Guard_not (fun h => ?_) (fun h => ?_) | with_reducible refine IfB_ndec (fun h => ?_) (fun h => ?_) | with_reducible refine IfB_not (fun h => ?_) (fun h => ?_) | with_reducible refine Guard_split (fun h => ?_) (fun h => ?_) | with_reducible refine IfB_split (fun h => ?_) (fun h => ?_))
    refine WX_rows hT hmix [(0, none), (1, none), (2, none), (3, none), (4, none), (9, none), (5, some [false, true, true, true, true, true]), (6, none), (7, none), (8, none), (10, some [false, true, true, true, true, true, true, true, true, true]), (11, none)] (by kernel_rfl) ?_
    repeat' (first | simp only [go_sem, Nat.reduceLT, Nat.reduceEqDiff, Nat.reduceAdd, Nat.reduceMul, Nat.reduceSub, Nat.reduceLeDiff, Int.reduceToNat, Int.reduceNeg, Int.reduceLT, Int.reduceLE, Int.reduceEq, reduceCtorEq, Int.natCast_zero, Int.natCast_one, Int.cast_ofNat_Int, Bool.not_not, false_eq_decide, true_eq_decide, hread0, hreadk, read_cons0, read_consk, astore_h0, astore_hk, hget0, hgetk, hset0, hsetk, hlen, hcat, Nat.add_assoc, Nat.add_zero, Nat.zero_add, List.length_append, and_true, true_and, AV.flat, ha1, one_solid ha1, one_cells ha1, ha2, one_solid ha2, one_cells ha2, g1, get_app g1, read_get g1, read_app g1, *, -hK, -ha, -hof, -kJ, -hlt, -hto, -hJl, -had, -back, -hE, -htn, -g0] | refine WC.call (had _) ?_ | with_reducible refine IfB_dec (fun h => ?_) (fun h => ?_) | with_reducible refine Guard_dec (fun h => ?_) (fun h => ?_) | with_reducible refine Guard_ndec (fun h => ?_) (fun h => ?_) | with_reducible refine Guard_not (fun h => ?_) (fun h => ?_) | with_reducible refine IfB_ndec (fun h => ?_) (fun h => ?_) | with_reducible refine IfB_not (fun h => ?_) (fun h => ?_) | with_reducible refine Guard_split (fun h => ?_) (fun h => ?_) | with_reducible refine IfB_split (fun h => ?_) (fun h => ?_))
    have g1b := get_app g1 [(⟨[Enc.str.lst o2.t, Enc.str.lst o2.k], 0, .full⟩ : Blk)]
    have g2b : (J ++ [(⟨[Enc.str.lst o2.t, Enc.str.lst o2.k], 0, .full⟩ : Blk)])[J.length]? = some ⟨[Enc.str.lst o2.t, Enc.str.lst o2.k], 0, .full⟩ := by simp
    repeat' (first | simp only [go_sem, Nat.reduceLT, Nat.reduceEqDiff, Nat.reduceAdd, Nat.reduceMul, Nat.reduceSub, Nat.reduceLeDiff, Int.reduceToNat, Int.reduceNeg, Int.reduceLT, Int.reduceLE, Int.reduceEq, reduceCtorEq, Int.natCast_zero, Int.natCast_one, Int.cast_ofNat_Int, Bool.not_not, false_eq_decide, true_eq_decide, hread0, hreadk, read_cons0, read_consk, astore_h0, astore_hk, hget0, hgetk, hset0, hsetk, hlen, hcat, Nat.add_assoc, Nat.add_zero, Nat.zero_add, List.length_append, and_true, true_and, AV.flat, ha1, one_solid ha1, one_cells ha1, ha2, one_solid ha2, one_cells ha2, g2b, get_app g2b, read_get g2b, read_app g2b, g1b, get_app g1b, read_get g1b, read_app g1b, astore_get g1b, astore_app g1b, get_set g1b, get_set_app g1b, read_set g1b, read_set_app g1b, astore_set g1b, astore_set_app g1b, List.set_set, hget0s, hgetks, hread0s, hreadks, List.length_set, *, -hK, -ha, -hof, -kJ, -hlt, -hto, -hJl, -had, -back, -hE, -htn, -g0, -g1] | with_reducible refine IfB_dec (fun h => ?_) (fun h => ?_) | with_reducible refine Guard_dec (fun h => ?_) (fun h => ?_) | with_reducible refine Guard_ndec (fun h => ?_) (fun h => ?_) | with_reducible refine Guard_not (fun h => ?_) (fun h => ?_) | with_reducible refine IfB_ndec (fun h => ?_) (fun h => ?_) | with_reducible refine IfB_not (fun h => ?_) (fun h => ?_) | with_reducible refine Guard_split (fun h => ?_) (fun h => ?_) | with_reducible refine IfB_split (fun h => ?_) (fun h => ?_))
    exact back _ _ (by (repeat (first | exact hs | refine hA _ _ _ (by decide) ?_))) (by simp only [go_sem, Nat.reduceLT, Nat.reduceEqDiff, Nat.reduceAdd, Nat.reduceMul, Nat.reduceSub, Nat.reduceLeDiff, Int.reduceToNat, Int.reduceNeg, Int.reduceLT, Int.reduceLE, Int.reduceEq, reduceCtorEq]) (by rw [List.getElem?_set_ne (by omega)]; exact get_app g0 _) (List.getElem?_set_self (by simp; omega)) ⟨by rw [List.length_set]; simp; have := kJ.len; omega, fun c hc _ => by rw [List.getElem?_set_ne (by omega), List.getElem?_append_left (by omega)]; exact kJ.at_ c hc (by simp)⟩
  · rw [if_neg hE] at hof
    rw [← hof] at hK
    have g0b := get_app g0 [(⟨[Enc.str.lst (addO o s).t, Enc.str.lst (addO o s).k], 0, .full⟩ : Blk)]
    have g1b := get_app g1 [(⟨[Enc.str.lst (addO o s).t, Enc.str.lst (addO o s).k], 0, .full⟩ : Blk)]
    generalize addO o s = o2 at *
    generalize addE o s = ee at *
    have th := ha.thaw H.length (List.set (J ++ [(⟨[Enc.str.lst o2.t, Enc.str.lst o2.k], 0, .full⟩ : Blk)]) H.length ⟨[a, b], 0, .full⟩)
    have kF : Keep none H (List.set (J ++ [(⟨[Enc.str.lst o2.t, Enc.str.lst o2.k], 0, .full⟩ : Blk)]) H.length ⟨[a, b], 0, .full⟩) := ⟨by rw [List.length_set]; simp; have := kJ.len; omega, fun c hc _ => by rw [List.getElem?_set_ne (by omega), List.getElem?_append_left (by omega)]; exact kJ.at_ c hc (by simp)⟩
    unfold Ord.av at had
    repeat' (first | simp only [go_sem, Nat.reduceLT, Nat.reduceEqDiff, Nat.reduceAdd, Nat.reduceMul, Nat.reduceSub, Nat.reduceLeDiff, Int.reduceToNat, Int.reduceNeg, Int.reduceLT, Int.reduceLE, Int.reduceEq, reduceCtorEq, Int.natCast_zero, Int.natCast_one, Int.cast_ofNat_Int, Bool.not_not, false_eq_decide, true_eq_decide, hread0, hreadk, read_cons0, read_consk, astore_h0, astore_hk, hget0, hgetk, hset0, hsetk, hlen, hcat, Nat.add_assoc, Nat.add_zero, Nat.zero_add, List.length_append, and_true, true_and, AV.flat, ha1, one_solid ha1, one_cells ha1, ha2, one_solid ha2, one_cells ha2, g1, get_app g1, read_get g1, read_app g1, *, -hK, -ha, -hof, -kJ, -hlt, -hto, -hJl, -had, -back, -g0, -th, -kF] | with_reducible refine IfB_dec (fun h => ?_) (fun h => ?_) | with_reducible refine Guard_dec (fun h => ?_) (fun h => ?_) | with_reducible refine Guard_ndec (fun h => ?_) (fun h => ?_) | with_reducible refine Guard_not (fun h => ?_) (fun h => ?_) | with_reducible refine IfB_ndec (fun h => ?_) (fun h => ?_) | with_reducible refine IfB_not (fun h => ?_) (fun h => ?_) | with_reducible refine Guard_split (fun h => ?_) (fun h => ?_) | with_reducible refine IfB_split (fun h => ?_) (fun h => ?_))
    refine WX_rows hT hmix [(0, none), (1, none), (2, none), (3, none), (4, none), (9, none), (5, some [false, true, true, true, true, true]), (6, none), (7, none), (8, none), (10, some [false, true, true, true, true, true, true, true, true, true]), (11, none)] (by kernel_rfl) ?_
    repeat' (first | simp only [go_sem, Nat.reduceLT, Nat.reduceEqDiff, Nat.reduceAdd, Nat.reduceMul, Nat.reduceSub, Nat.reduceLeDiff, Int.reduceToNat, Int.reduceNeg, Int.reduceLT, Int.reduceLE, Int.reduceEq, reduceCtorEq, Int.natCast_zero, Int.natCast_one, Int.cast_ofNat_Int, Bool.not_not, false_eq_decide, true_eq_decide, hread0, hreadk, read_cons0, read_consk, astore_h0, astore_hk, hget0, hgetk, hset0, hsetk, hlen, hcat, Nat.add_assoc, Nat.add_zero, Nat.zero_add, List.length_append, and_true, true_and, AV.flat, ha1, one_solid ha1, one_cells ha1, ha2, one_solid ha2, one_cells ha2, g1, get_app g1, read_get g1, read_app g1, g1b, get_app g1b, read_get g1b, read_app g1b, g0b, get_app g0b, read_get g0b, read_app g0b, astore_get g0b, astore_app g0b, get_set g0b, get_set_app g0b, read_set g0b, read_set_app g0b, astore_set g0b, astore_set_app g0b, List.set_set, hget0s, hgetks, hread0s, hreadks, List.length_set, *, -hK, -ha, -hof, -kJ, -hlt, -hto, -hJl, -had, -back, -g0, -th, -kF] | refine WC.call (had _) ?_ | with_reducible refine IfB_dec (fun h => ?_) (fun h => ?_) | with_reducible refine Guard_dec (fun h => ?_) (fun h => ?_) | with_reducible refine Guard_ndec (fun h => ?_) (fun h => ?_) | with_reducible refine Guard_not (fun h => ?_) (fun h => ?_) | with_reducible refine IfB_ndec (fun h => ?_) (fun h => ?_) | with_reducible refine IfB_not (fun h => ?_) (fun h => ?_) | with_reducible refine Guard_split (fun h => ?_) (fun h => ?_) | with_reducible refine IfB_split (fun h => ?_) (fun h => ?_))
    exact hK _ _ (Thaw.tup_row ⟨th, .atom _ rfl, trivial⟩) kF
end Go.Proofs.Ytakllaigpjbgdaa
