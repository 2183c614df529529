import Derived.Test.YtccfhighlpfdmaaTrkE2
import Derived.Test.YtccfhighlpfdmaaTrkW
set_option linter.unusedSimpArgs false
set_option linter.unusedVariables false
set_option maxRecDepth 100000
set_option maxHeartbeats 4000000
namespace Go.Proofs.Ytccfhighlpfdmaa
open Go Go.Proofs Go.Proofs.PI
theorem on_spec (l : List Tk) (i : Int) (hn : l.length ≤ 140737488355328) (hns : ∀ t ∈ l, t.ns.length ≤ 140737488355328) (H : Heap) :
    WC Try.prog 22 [trAv l, .int .i64 i] H fun r H' => r = .tup [trAv (if askE l i = 0 then l.set i.toNat ⟨true, (tkAt l i.toNat).ns⟩ else []), .int .i64 (askE l i)] ∧ H' = H :=
  WC_val fun K hK => (on_own l i hn hns H).mono fun r H' ⟨⟨v, e, o⟩, k⟩ => hK r H' (by subst e; exact Thaw.tup_row ⟨Thaw.agg_row ⟨o.thaw, trivial⟩, .int _ _, trivial⟩) k
theorem off_spec (l : List Tk) (i : Int) (hn : l.length ≤ 140737488355328) (hns : ∀ t ∈ l, t.ns.length ≤ 140737488355328) (H : Heap) :
    WC Try.prog 25 [trAv l, .int .i64 i] H fun r H' => r = .tup [trAv (if askE l i = 0 then l.set i.toNat ⟨false, []⟩ else []), .int .i64 (askE l i)] ∧ H' = H :=
  WC_val fun K hK => (off_own l i hn hns H).mono fun r H' ⟨⟨v, e, o⟩, k⟩ => hK r H' (by subst e; exact Thaw.tup_row ⟨Thaw.agg_row ⟨o.thaw, trivial⟩, .int _ _, trivial⟩) k
theorem told_spec (l : List Tk) (i : Int) (hn : l.length ≤ 140737488355328) (hns : ∀ t ∈ l, t.ns.length ≤ 140737488355328) (H : Heap) :
    WC Try.prog 21 [trAv l, .int .i64 i] H fun r H' => r = .tup [nmE.lst (if askE l i = 0 then (tkAt l i.toNat).ns else []), .int .i64 (askE l i)] ∧ H' = H :=
  WC_val fun K hK => (told_own l i hn hns H).mono fun r H' ⟨⟨v, e, o⟩, k⟩ => hK r H' (by subst e; exact Thaw.tup_row ⟨o.thaw (by decide), .int _ _, trivial⟩) k
theorem less_own (m : Nat) (v : AV) (xs : List Pu) (c e : Int) (hn : xs.length ≤ 1000) (H : Heap) (hv : OwnE puE m H v xs) (hmH : m ≤ H.length) :
    WC Try.prog 26 [v, .int .i64 c, .int .i64 e] H fun r H' => OwnE puE m H' r (if e = 0 then xs.filter (fun p => !decide (p.conn = c)) else xs) ∧ Keep none H H' := by
  refine WC_of_K fun K hK => ?_
  have hvo := hv.one
  by_cases he : e = 0
  rotate_left
  · rw [if_neg he] at hK
    refine WC_of_body hT Try.func26 rfl (by simp [Try.f26]) (by simp [Try.f26]) (wx_sound hT _ ?_)
    simp only [Try.f26]
    repeat' (first | simp only [go_sem, Nat.reduceLT, Nat.reduceEqDiff, Nat.reduceAdd, Nat.reduceMul, Nat.reduceSub, Nat.reduceLeDiff, Int.reduceToNat, Int.reduceNeg, Int.reduceLT, Int.reduceLE, Int.reduceEq, reduceCtorEq, Int.natCast_zero, Int.natCast_one, Int.cast_ofNat_Int, Bool.not_not, false_eq_decide, true_eq_decide, hread0, hreadk, read_cons0, read_consk, astore_h0, astore_hk, hget0, hgetk, hset0, hsetk, hlen, hcat, Nat.add_assoc, Nat.add_zero, Nat.zero_add, List.length_append, and_true, true_and, AV.flat, hvo, one_solid hvo, one_cells hvo, *, -hK, -hv] | with_reducible refine IfB_dec (fun h => ?_) (fun h => ?_) | with_reducible refine Guard_dec (fun h => ?_) (fun h => ?_) | with_reducible refine Guard_ndec (fun h => ?_) (fun h => ?_) | with_reducible refine Guard_not (fun h => ?_) (fun h => ?_) | with_reducible refine IfB_ndec (fun h => ?_) (fun h => ?_) | with_reducible refine IfB_not (fun h => ?_) (fun h => ?_) | with_reducible refine Guard_split (fun h => ?_) (fun h => ?_) | with_reducible refine IfB_split (fun h => ?_) (fun h => ?_))
    exact hK _ _ ⟨hv, Keep.refl _ _⟩
  rw [if_pos he] at hK
  subst he
  have e0 := hv.alen (by decide) tk31
  refine WC_of_body hT Try.func26 rfl (by simp [Try.f26]) (by simp [Try.f26]) (wx_sound hT _ ?_)
  simp only [Try.f26]
  repeat' (first | simp only [go_sem, Nat.reduceLT, Nat.reduceEqDiff, Nat.reduceAdd, Nat.reduceMul, Nat.reduceSub, Nat.reduceLeDiff, Int.reduceToNat, Int.reduceNeg, Int.reduceLT, Int.reduceLE, Int.reduceEq, reduceCtorEq, Int.natCast_zero, Int.natCast_one, Int.cast_ofNat_Int, Bool.not_not, false_eq_decide, true_eq_decide, hread0, hreadk, read_cons0, read_consk, astore_h0, astore_hk, hget0, hgetk, hset0, hsetk, hlen, hcat, Nat.add_assoc, Nat.add_zero, Nat.zero_add, List.length_append, and_true, true_and, AV.flat, hvo, one_solid hvo, one_cells hvo, *, -hK, -hv] | with_reducible refine IfB_dec (fun h => ?_) (fun h => ?_) | with_reducible refine Guard_dec (fun h => ?_) (fun h => ?_) | with_reducible refine Guard_ndec (fun h => ?_) (fun h => ?_) | with_reducible refine Guard_not (fun h => ?_) (fun h => ?_) | with_reducible refine IfB_ndec (fun h => ?_) (fun h => ?_) | with_reducible refine IfB_not (fun h => ?_) (fun h => ?_) | with_reducible refine Guard_split (fun h => ?_) (fun h => ?_) | with_reducible refine IfB_split (fun h => ?_) (fun h => ?_))
  refine WX_loopS [0, 1] (fun k fr' J => ∃ (i : Nat) (w : AV), k = xs.length - i ∧ i ≤ xs.length ∧ fr'.get 8 = .int .i64 i ∧ fr'.get 7 = w ∧ OwnE puE H.length J w ((xs.take i).filter fun p => !decide (p.conn = c)) ∧ Keep none H J) xs.length ⟨0, .nils, rfl, by omega, by simp only [go_sem, Nat.reduceLT, Nat.reduceEqDiff, Nat.reduceAdd, Nat.reduceMul, Nat.reduceSub, Nat.reduceLeDiff, Int.reduceToNat, Int.reduceNeg, Int.reduceLT, Int.reduceLE, Int.reduceEq, reduceCtorEq]; rfl, by simp only [go_sem, Nat.reduceLT, Nat.reduceEqDiff, Nat.reduceAdd, Nat.reduceMul, Nat.reduceSub, Nat.reduceLeDiff, Int.reduceToNat, Int.reduceNeg, Int.reduceLT, Int.reduceLE, Int.reduceEq, reduceCtorEq], OwnE.nils _ _ _, Keep.refl _ _⟩ ?_
  rintro k fr' J A R hA hs hg hR ⟨i, w, rfl, hi, f8, f7, ow, kJ⟩
  have s0 := hg 0 (by decide)
  have s1 := hg 1 (by decide)
  simp only [Fr.get_put, Fr.get_init, List.getD_cons_zero, List.getD_cons_succ, Nat.reduceEqDiff, if_true, if_false] at s0 s1
  refine wx_sound hT _ ?_
  have hw := ow.one
  by_cases hlt : i < xs.length
  rotate_left
  · have i1 : ¬ (i : Int) < xs.length := by omega
    have hie : i = xs.length := by omega
    rw [hie, List.take_length] at ow
    repeat' (first | simp only [go_sem, Nat.reduceLT, Nat.reduceEqDiff, Nat.reduceAdd, Nat.reduceMul, Nat.reduceSub, Nat.reduceLeDiff, Int.reduceToNat, Int.reduceNeg, Int.reduceLT, Int.reduceLE, Int.reduceEq, reduceCtorEq, Int.natCast_zero, Int.natCast_one, Int.cast_ofNat_Int, Bool.not_not, false_eq_decide, true_eq_decide, hread0, hreadk, read_cons0, read_consk, astore_h0, astore_hk, hget0, hgetk, hset0, hsetk, hlen, hcat, Nat.add_assoc, Nat.add_zero, Nat.zero_add, List.length_append, and_true, true_and, AV.flat, hvo, one_solid hvo, one_cells hvo, hw, one_solid hw, one_cells hw, *, -hK, -hv, -ow, -kJ, -hie] | with_reducible refine IfB_dec (fun h => ?_) (fun h => ?_) | with_reducible refine Guard_dec (fun h => ?_) (fun h => ?_) | with_reducible refine Guard_ndec (fun h => ?_) (fun h => ?_) | with_reducible refine Guard_not (fun h => ?_) (fun h => ?_) | with_reducible refine IfB_ndec (fun h => ?_) (fun h => ?_) | with_reducible refine IfB_not (fun h => ?_) (fun h => ?_) | with_reducible refine Guard_split (fun h => ?_) (fun h => ?_) | with_reducible refine IfB_split (fun h => ?_) (fun h => ?_))
    exact hK _ _ ⟨ow.mono hmH, kJ⟩
  have i1 : (i : Int) < xs.length := by omega
  have e3 := inc_id hlt (by omega)
  obtain ⟨b, o, e1, e2, -⟩ := (hv.keep0 kJ).at_ (by decide) se31 hlt (k := .i64) rfl
  rw [show puE.sz = 3 from rfl, puE_cells] at e2
  have e21 := read_sub e2 0 1 (by omega)
  simp only [Nat.add_zero, List.drop_zero, List.take_succ_cons, List.take_zero] at e21
  have hfs : (xs.take (i + 1)).filter (fun p => !decide (p.conn = c)) = (xs.take i).filter (fun p => !decide (p.conn = c)) ++ if xs[i].conn = c then [] else [xs[i]] := by
    rw [List.take_succ_eq_append_getElem hlt, List.filter_append]; congr 1; by_cases hh : xs[i].conn = c <;> simp [hh]
  have back : ∀ fr2 J2 w2, A fr2 → fr2.get 8 = .int .i64 ((i + 1 : Nat) : Int) → fr2.get 7 = w2 → OwnE puE H.length J2 w2 ((xs.take (i + 1)).filter fun p => !decide (p.conn = c)) → Keep none H J2 → R fr2 J2 := fun fr2 J2 w2 ha q1 q2 q3 q4 => hR fr2 J2 ha (xs.length - (i + 1)) (by omega) ⟨i + 1, w2, rfl, by omega, q1, q2, q3, q4⟩
  rw [hfs] at back
  have hfl := List.length_filter_le (fun p => !decide (p.conn = c)) (xs.take i)
  rw [List.length_take] at hfl
  clear hR hfs
  generalize hx : xs[i] = x at *
  obtain ⟨uc, ut, uk⟩ := x
  simp only at back e2 e21
  by_cases hh : uc = c
  · rw [if_pos hh, List.append_nil] at back
    subst hh
    repeat' (first | simp only [go_sem, Nat.reduceLT, Nat.reduceEqDiff, Nat.reduceAdd, Nat.reduceMul, Nat.reduceSub, Nat.reduceLeDiff, Int.reduceToNat, Int.reduceNeg, Int.reduceLT, Int.reduceLE, Int.reduceEq, reduceCtorEq, Int.natCast_zero, Int.natCast_one, Int.cast_ofNat_Int, Bool.not_not, false_eq_decide, true_eq_decide, hread0, hreadk, read_cons0, read_consk, astore_h0, astore_hk, hget0, hgetk, hset0, hsetk, hlen, hcat, Nat.add_assoc, Nat.add_zero, Nat.zero_add, List.length_append, and_true, true_and, AV.flat, hvo, one_solid hvo, one_cells hvo, hw, one_solid hw, one_cells hw, *, -hK, -hv, -ow, -kJ, -back, -hfl, -hx, -e2] | with_reducible refine IfB_dec (fun h => ?_) (fun h => ?_) | with_reducible refine Guard_dec (fun h => ?_) (fun h => ?_) | with_reducible refine Guard_ndec (fun h => ?_) (fun h => ?_) | with_reducible refine Guard_not (fun h => ?_) (fun h => ?_) | with_reducible refine IfB_ndec (fun h => ?_) (fun h => ?_) | with_reducible refine IfB_not (fun h => ?_) (fun h => ?_) | with_reducible refine Guard_split (fun h => ?_) (fun h => ?_) | with_reducible refine IfB_split (fun h => ?_) (fun h => ?_))
    exact back _ _ _ (by (repeat (first | exact hs | refine hA _ _ _ (by decide) ?_))) (by simp only [go_sem, Nat.reduceLT, Nat.reduceEqDiff, Nat.reduceAdd, Nat.reduceMul, Nat.reduceSub, Nat.reduceLeDiff, Int.reduceToNat, Int.reduceNeg, Int.reduceLT, Int.reduceLE, Int.reduceEq, reduceCtorEq]) rfl (by simp only [go_sem, Nat.reduceLT, Nat.reduceEqDiff, Nat.reduceAdd, Nat.reduceMul, Nat.reduceSub, Nat.reduceLeDiff, Int.reduceToNat, Int.reduceNeg, Int.reduceLT, Int.reduceLE, Int.reduceEq, reduceCtorEq]; rw [f7]; exact ow) kJ
  · rw [if_neg hh] at back
    have hJl : H.length ≤ J.length := kJ.len
    repeat' (first | simp only [go_sem, Nat.reduceLT, Nat.reduceEqDiff, Nat.reduceAdd, Nat.reduceMul, Nat.reduceSub, Nat.reduceLeDiff, Int.reduceToNat, Int.reduceNeg, Int.reduceLT, Int.reduceLE, Int.reduceEq, reduceCtorEq, Int.natCast_zero, Int.natCast_one, Int.cast_ofNat_Int, Bool.not_not, false_eq_decide, true_eq_decide, hread0, hreadk, read_cons0, read_consk, astore_h0, astore_hk, hget0, hgetk, hset0, hsetk, hlen, hcat, Nat.add_assoc, Nat.add_zero, Nat.zero_add, List.length_append, and_true, true_and, AV.flat, hvo, one_solid hvo, one_cells hvo, hw, one_solid hw, one_cells hw, *, -hK, -hv, -ow, -kJ, -back, -hfl, -hx, -hJl] | with_reducible refine IfB_dec (fun h => ?_) (fun h => ?_) | with_reducible refine Guard_dec (fun h => ?_) (fun h => ?_) | with_reducible refine Guard_ndec (fun h => ?_) (fun h => ?_) | with_reducible refine Guard_not (fun h => ?_) (fun h => ?_) | with_reducible refine IfB_ndec (fun h => ?_) (fun h => ?_) | with_reducible refine IfB_not (fun h => ?_) (fun h => ?_) | with_reducible refine Guard_split (fun h => ?_) (fun h => ?_) | with_reducible refine IfB_split (fun h => ?_) (fun h => ?_))
    refine append1_enc (E := puE) (x := ⟨uc, ut, uk⟩) ow rfl se31 az47 td47 tk31 rfl rfl (by decide) (by show (_ + 1) * 99 ≤ _; omega) hJl ?_
    intro v5 H5 o5 k5 hn5
    have hv5 := o5.one
    repeat' (first | simp only [go_sem, Nat.reduceLT, Nat.reduceEqDiff, Nat.reduceAdd, Nat.reduceMul, Nat.reduceSub, Nat.reduceLeDiff, Int.reduceToNat, Int.reduceNeg, Int.reduceLT, Int.reduceLE, Int.reduceEq, reduceCtorEq, Int.natCast_zero, Int.natCast_one, Int.cast_ofNat_Int, Bool.not_not, false_eq_decide, true_eq_decide, hread0, hreadk, read_cons0, read_consk, astore_h0, astore_hk, hget0, hgetk, hset0, hsetk, hlen, hcat, Nat.add_assoc, Nat.add_zero, Nat.zero_add, List.length_append, and_true, true_and, AV.flat, hv5, one_solid hv5, one_cells hv5, *, -hK, -hv, -ow, -kJ, -back, -hfl, -hx, -hJl, -o5, -k5, -hn5, -e2, -e21] | with_reducible refine IfB_dec (fun h => ?_) (fun h => ?_) | with_reducible refine Guard_dec (fun h => ?_) (fun h => ?_) | with_reducible refine Guard_ndec (fun h => ?_) (fun h => ?_) | with_reducible refine Guard_not (fun h => ?_) (fun h => ?_) | with_reducible refine IfB_ndec (fun h => ?_) (fun h => ?_) | with_reducible refine IfB_not (fun h => ?_) (fun h => ?_) | with_reducible refine Guard_split (fun h => ?_) (fun h => ?_) | with_reducible refine IfB_split (fun h => ?_) (fun h => ?_))
    exact back _ _ _ (by (repeat (first | exact hs | refine hA _ _ _ (by decide) ?_))) (by simp only [go_sem, Nat.reduceLT, Nat.reduceEqDiff, Nat.reduceAdd, Nat.reduceMul, Nat.reduceSub, Nat.reduceLeDiff, Int.reduceToNat, Int.reduceNeg, Int.reduceLT, Int.reduceLE, Int.reduceEq, reduceCtorEq]) rfl (by simp only [go_sem, Nat.reduceLT, Nat.reduceEqDiff, Nat.reduceAdd, Nat.reduceMul, Nat.reduceSub, Nat.reduceLeDiff, Int.reduceToNat, Int.reduceNeg, Int.reduceLT, Int.reduceLE, Int.reduceEq, reduceCtorEq]; exact o5) (kJ.via k5 (fun b hb => ow.ge hb))
/-! ### plain: who has what -/
def hasP (ts : List Tk) (p : Pu) : Prop := ∃ c : Nat, p.conn = c ∧ ∃ h : c < ts.length, (⟨p.ten, p.key⟩ : Nm) ∈ ts[c].ns
theorem hasP_change {ts : List Tk} {cs : List Chg} {p : Pu} (hm : trMay ts) (h : hasP ts p) (hn : p ∉ (runS (ts, []) cs).2) : hasP (finL ts cs) p := by
  obtain ⟨c, hc, hlt, hin⟩ := h
  refine ⟨c, hc, by unfold finL; rw [List.length_map]; exact hlt, ?_⟩
  have hcnt := runS_count ⟨p.ten, p.key⟩ c cs ts [] (fun t ht => (hm.2.2 t ht).2.2) hlt
  simp only [finL, List.getElem_map, List.mem_filter]
  refine ⟨hin, ?_⟩
  cases hh : hitB cs ⟨p.ten, p.key⟩ with
  | false => rfl
  | true =>
    rw [if_pos ⟨hin, hh⟩] at hcnt
    have : 0 < (runS (ts, []) cs).2.countP (isP c ⟨p.ten, p.key⟩) := by rw [hcnt]; omega
    obtain ⟨a, ha, hp⟩ := List.countP_pos_iff.1 this
    simp only [isP, decide_eq_true_eq] at hp
    have : a = p := by
      obtain ⟨x1, x2, x3⟩ := a
      obtain ⟨y1, y2, y3⟩ := p
      simp only at hp hc
      obtain ⟨h1, h2, h3⟩ := hp
      rw [h1, h2, h3, hc]
    exact absurd (this ▸ ha) hn
theorem readT_has {t : Tk} {n m : Nm} {j : Nat} (hm : t.may) (h : m ∈ t.ns ∨ m = n) (hno : pushN j m ∉ (readT j t n).2) : m ∈ (readT j t n).1.ns := by
  by_cases hold : n ∈ t.ns ∨ t.ns.length < 16
  · rcases h with h | h
    · exact (readT_old hm j hold).2 m h
    · have h16 : (readN t.ns n).length ≤ 16 := by
        rcases hold with hc | hc
        · exact Nat.le_trans (readN_len_mem hc) hm.1.2
        · have := readN_len t.ns n; omega
      unfold readT; rw [if_pos h16]
      exact (mem_readN _ _ _).2 (.inr h)
  · obtain ⟨x, l, e1, e2, e3, e4, e5⟩ := readT_new hm j (fun hh => hold (.inl hh)) (fun hh => hold (.inr hh))
    rw [e4]
    rw [e3] at hno
    rcases h with h | h
    · rw [e1] at h
      rcases List.mem_cons.1 h with rfl | h
      · exact absurd (List.mem_singleton.2 rfl) hno
      · exact List.mem_append_left _ h
    · exact List.mem_append_right _ (List.mem_singleton.2 h)
theorem hasP_read {ts : List Tk} {n : Nm} {p : Pu} {j : Nat} (hm : trMay ts) (hj : j < ts.length) (h : hasP ts p ∨ p = pushN j n) (hn : p ∉ (readT j ts[j] n).2) : hasP (ts.set j (readT j ts[j] n).1) p := by
  have hmj := hm.2.2 _ (List.getElem_mem hj)
  have key : ∀ m : Nm, (m ∈ ts[j].ns ∨ m = n) → pushN j m ∉ (readT j ts[j] n).2 → hasP (ts.set j (readT j ts[j] n).1) (pushN j m) := fun m h1 h2 =>
    ⟨j, rfl, by rw [List.length_set]; exact hj, by rw [List.getElem_set_self]; exact readT_has hmj h1 h2⟩
  rcases h with ⟨c, hc, hlt, hin⟩ | rfl
  · by_cases e : c = j
    · subst e
      have : p = pushN c ⟨p.ten, p.key⟩ := by obtain ⟨y1, y2, y3⟩ := p; simp only at hc; subst hc; rfl
      rw [this] at hn ⊢
      exact key _ (.inl hin) hn
    · exact ⟨c, hc, by rw [List.length_set]; exact hlt, by rw [List.getElem_set_ne (fun h => e h.symm)]; exact hin⟩
  · exact key _ (.inr rfl) hn
theorem hasP_set {ts : List Tk} {p : Pu} {j : Nat} {t : Tk} (hj : j < ts.length) (h : hasP ts p) (hc : p.conn = j → ∀ m ∈ ts[j].ns, m ∈ t.ns) : hasP (ts.set j t) p := by
  obtain ⟨c, hcc, hlt, hin⟩ := h
  refine ⟨c, hcc, by rw [List.length_set]; exact hlt, ?_⟩
  by_cases e : c = j
  · subst e
    rw [List.getElem_set_self]
    exact hc hcc _ hin
  · rw [List.getElem_set_ne (fun h => e h.symm)]; exact hin
/-! ### things that happen -/
structure Act where
  kind : Int
  conn : Int
  ten : Int
  key : List UInt8
  chs : List Chg
def Act.cs (a : Act) : List AV := [.int .u8 a.kind, .int .i64 a.conn, .int .i64 a.ten, .str a.key, chgE.lst a.chs]
def actE : Enc Act := ⟨5, Act.cs, fun _ => rfl, fun x a ha => by
  simp only [Act.cs, List.mem_cons, List.not_mem_nil, or_false] at ha; rcases ha with rfl | rfl | rfl | rfl | rfl <;> rfl⟩
theorem actE_cells (a : Act) : actE.cells a = [.int .u8 a.kind, .int .i64 a.conn, .int .i64 a.ten, .str a.key, chgE.lst a.chs] := rfl
def Act.Ok (a : Act) : Prop := (0 ≤ a.kind ∧ a.kind < 256) ∧ (∀ c ∈ a.chs, c.Ok) ∧ a.chs.length ≤ 140737488355328
theorem inp_act {n : Nat} {x : List AV} (h : InpP T (n + 5) 66 x) : ∃ a : Act, x = actE.cells a ∧ a.Ok := by
  obtain ⟨parts, rfl, hl, hp⟩ := InpP.struct tk66 h
  obtain ⟨p0, p1, p2, p3, rfl⟩ := len4 hl
  obtain ⟨s0, rfl, w0⟩ := InpP.int tk5 (hp 0 _ _ rfl rfl)
  obtain ⟨s1, rfl, -⟩ := InpP.int tk3 (hp 1 _ _ rfl rfl)
  obtain ⟨c, rfl, -⟩ := inp_name (hp 2 _ _ rfl rfl)
  obtain ⟨t1, rfl, hs, -, hd⟩ := InpP.slice (E := chgE) (Pr := Chg.Ok) tk25 (fun x hx => inp_change hx) (hp 3 _ _ rfl rfl)
  exact ⟨⟨s0, s1, c.ten, c.key, t1⟩, rfl, u8_wfi w0, hs, by have : t1.length * 112 ≤ reachBytes := hd _ td45; unfold reachBytes at this; show t1.length ≤ _; omega⟩
theorem inp_acts {n : Nat} {a : AV} (h : InpPV T (n + 6) 64 a) : ∃ l : List Act, a = actE.lst l ∧ (∀ c ∈ l, c.Ok) ∧ l.length ≤ 140737488355328 := by
  obtain ⟨xs, rfl, ho, -, hd⟩ := InpPV.slice (E := actE) (Pr := Act.Ok) tk64 (fun x hx => inp_act hx) h
  exact ⟨xs, rfl, ho, by
    have hb := hd _ td66
    unfold reachBytes at hb
    have : xs.length * 64 ≤ 140737488351232 := hb
    omega⟩
end Go.Proofs.Ytccfhighlpfdmaa
