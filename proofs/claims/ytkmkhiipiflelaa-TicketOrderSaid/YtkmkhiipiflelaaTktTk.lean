import Derived.Test.YtkmkhiipiflelaaTktPu
set_option linter.unusedSimpArgs false
set_option linter.unusedVariables false
set_option maxRecDepth 100000
set_option maxHeartbeats 4000000
namespace Go.Proofs.Ytkmkhiipiflelaa
open Go Go.Proofs Go.Proofs.PI
/-! ### Take -/
def TlV (m : Nat) (H : Heap) (x : AV) (l : List Tkt) : Prop := Vs H x 12 l.length (tktE.row l) ∧ ∀ b, x.blk = some b → m ≤ b ∧ ∃ B, H[b]? = some B ∧ B.st.own = true
theorem TlV.of {m : Nat} {H : Heap} {x : AV} {l : List Tkt} (o : OwnE tktE m H x l) : TlV m H x l := by
  refine ⟨o.vs (by decide), fun b hb => ?_⟩
  rcases o with ⟨rfl, _⟩ | ⟨b2, n, st, rest, rfl, h1, h2, h3, _⟩
  · cases hb
  · cases hb; exact ⟨h1, _, h2, h3⟩
theorem TlV.same {m : Nat} {H G : Heap} {x : AV} {l : List Tkt} (o : TlV m H x l) (h : ∀ b, x.blk = some b → G[b]? = H[b]?) : TlV m G x l := by
  refine ⟨⟨o.1.1, ?_⟩, fun b hb => by rw [h b hb]; exact o.2 b hb⟩
  rcases o.1.2 with h1 | h1 | ⟨b, p, cap, B, rfl, hcap, h1, h2⟩
  · exact .inl h1
  · exact .inr (.inl h1)
  · exact .inr (.inr ⟨b, p, cap, B, rfl, hcap, by rw [h b rfl]; exact h1, h2⟩)
theorem TlV.thaw {m : Nat} {H : Heap} {x : AV} {l : List Tkt} (o : TlV m H x l) : Thaw m H x (tktE.lst l) := by
  obtain ⟨⟨hl, h⟩, ho⟩ := o
  rcases h with ⟨rfl, hn⟩ | ⟨rfl, hn⟩ | ⟨b, p, cap, B, rfl, hcap, h1, h2, h3, h4, h5⟩
  · rw [List.eq_nil_of_length_eq_zero hn]; exact .nils
  · rw [List.eq_nil_of_length_eq_zero hn]; exact .emp
  · obtain ⟨hm, B2, hB2, hst⟩ := ho b rfl
    rw [h1] at hB2
    cases hB2
    refine .sl b p _ cap B _ hm h1 hst (by rw [hl]; exact h4) fun i a c ha hc => ?_
    have hi := (List.getElem?_eq_some_iff.1 hc).1
    rw [hl] at hi
    have hc2 := hc
    rw [← h5, List.getElem?_take, if_pos hi, List.getElem?_drop, ha] at hc2
    cases hc2
    exact .atom _ (Enc.row_flat _ _ (List.mem_of_getElem? hc))
theorem TlV.tail {m : Nat} {H : Heap} {x : AV} {t : Tkt} {l : List Tkt} (o : TlV m H x (t :: l)) {T' : TypeId → Option TD} {ty e : TypeId} (he : asliceElem T' ty = some (e, 12)) :
    ∃ y, aslice T' H ty x (some (.int .i64 1)) none none = some y ∧ TlV m H y l ∧ (y.blk = none ∨ y.blk = x.blk) := by
  obtain ⟨y, h1, h2, h3⟩ := Vs.slice o.1 he (lo := some (.int .i64 1)) (hi := none) (l := 1) (u := (t :: l).length) (abound_nat 1 rfl) rfl (by simp) (Nat.le_refl _)
  have e1 : (t :: l).length - 1 = l.length := by simp
  have e2 : ((tktE.row (t :: l)).drop (1 * 12)).take (((t :: l).length - 1) * 12) = tktE.row l := by
    have := Enc.row_drop (E := tktE) (t :: l) 1
    rw [show (1 * 12 : Nat) = 1 * tktE.sz from rfl, this, e1, List.drop_one, List.tail_cons, List.take_of_length_le (by rw [Enc.row_length]; exact Nat.le_refl _)]
  rw [e2, e1] at h2
  exact ⟨y, h1, ⟨h2, fun b hb => o.2 b (by rcases h3 with h3 | h3; (rw [hb] at h3; cases h3); rw [← h3, hb])⟩, h3⟩
structure TlO (m : Nat) (H : Heap) (p : Nat) (qs : List AV) (l : List (List Tkt)) : Prop where
  len : qs.length = l.length
  ge : m ≤ p
  blk : ∃ st rest, H[p]? = some (⟨qs ++ rest, 1, st⟩ : Blk) ∧ st.own = true
  el : ∀ (i : Nat) x t, qs[i]? = some x → l[i]? = some t → TlV m H x t ∧ x.blk ≠ some p
theorem BxO.tl {m p : Nat} {H : Heap} {ps : List AV} {l : List (List Tkt)} (o : BxO m H p ps l) : TlO m H p ps l :=
  ⟨o.len, o.ge, o.blk, fun i x t hx ht => ⟨TlV.of (o.el i x t hx ht).1, (o.el i x t hx ht).2⟩⟩
section
variable {m p : Nat} {H : Heap} {ps : List AV} {l : List (List Tkt)} {T' : TypeId → Option TD}
theorem TlO.get (o : TlO m H p ps l) {i : Nat} (h : i < l.length) : ∃ x, ps[i]? = some x ∧ l[i]? = some l[i] ∧ TlV m H x l[i] ∧ x.blk ≠ some p := by
  have h1 := List.getElem?_eq_getElem (l := ps) (i := i) (by rw [o.len]; exact h)
  have h2 := List.getElem?_eq_getElem h
  exact ⟨_, h1, h2, o.el i _ _ h1 h2⟩
theorem TlO.lt (o : TlO m H p ps l) : p < H.length := by
  obtain ⟨st, rest, h, -⟩ := o.blk
  exact (List.getElem?_eq_some_iff.1 h).1
theorem TlO.read (o : TlO m H p ps l) {i : Nat} {x : AV} (hx : ps[i]? = some x) : H.read p i 1 = some [x] := by
  obtain ⟨st, rest, h, h2⟩ := o.blk
  obtain ⟨hi, e⟩ := List.getElem?_eq_some_iff.1 hx
  unfold Heap.read
  rw [h]
  simp only [own_alive h2, true_and]
  rw [if_pos (by rw [List.length_append]; omega)]
  simp only [Option.some.injEq]
  rw [List.drop_append_of_le_length (by omega), List.take_append_of_le_length (by rw [List.length_drop]; omega), List.drop_eq_getElem_cons hi, e]
  rfl
theorem TlO.store (o : TlO m H p ps l) {i : Nat} {x : AV} (hx : ps[i]? = some x) {te : TypeId} (hte : asize T' te = some 1) {s : AV} (hso : s.solid = true) (hc : s.cells = [s]) :
    ∃ st rest, st.own = true ∧ astore T' H te (.ptr p i) s = some (List.set H p ⟨ps.set i s ++ rest, 1, st⟩) := by
  obtain ⟨st, rest, h, hst⟩ := o.blk
  have hi : i < ps.length := (List.getElem?_eq_some_iff.1 hx).1
  refine ⟨st, rest, hst, ?_⟩
  simp only [astore, hte, h, hst, hso, hc, List.length_cons, List.length_nil, true_and]
  rw [if_pos (by rw [List.length_append]; omega), wr_left _ _ _ _ (by simp; omega), wr_one _ _ _ (by omega)]
theorem TlO.upd (o : TlO m H p ps l) {i : Nat} {x y : AV} {t2 : List Tkt} (hx : ps[i]? = some x) (hy : TlV m H y t2) (hn : y.blk = none ∨ y.blk = x.blk) (rest : List AV) (st : St) (hst : st.own = true) : TlO m (List.set H p ⟨ps.set i y ++ rest, 1, st⟩) p (ps.set i y) (l.set i t2) := by
  have hi : i < ps.length := (List.getElem?_eq_some_iff.1 hx).1
  have hyp : y.blk ≠ some p := fun e => by
    rcases hn with h | h
    · rw [e] at h; cases h
    · exact (o.el i x _ hx (List.getElem?_eq_getElem (by rw [← o.len]; exact hi))).2 (by rw [← h, e])
  refine ⟨by rw [List.length_set, List.length_set]; exact o.len, o.ge, ⟨st, rest, List.getElem?_set_self o.lt, hst⟩, fun j z u hz hu => ?_⟩
  by_cases e : i = j
  · subst e
    rw [List.getElem?_set_self hi] at hz
    rw [List.getElem?_set_self (by rw [← o.len]; exact hi)] at hu
    simp only [Option.some.injEq] at hz hu
    subst hz; subst hu
    exact ⟨hy.same fun b hb => List.getElem?_set_ne fun e => hyp (by rw [hb, e]), hyp⟩
  · rw [List.getElem?_set_ne e] at hz hu
    obtain ⟨g1, g2⟩ := o.el j z u hz hu
    exact ⟨g1.same fun b hb => List.getElem?_set_ne fun e => g2 (by rw [hb, e]), g2⟩
theorem TlO.low {G : Heap} (o : TlO m H p ps l) (h : ∀ b, m ≤ b → b < H.length → G[b]? = H[b]?) : TlO m G p ps l := by
  refine ⟨o.len, o.ge, ?_, fun i x t hx ht => ?_⟩
  · obtain ⟨st, rest, h1, h2⟩ := o.blk
    exact ⟨st, rest, by rw [h p o.ge o.lt]; exact h1, h2⟩
  · obtain ⟨g1, g2⟩ := o.el i x t hx ht
    exact ⟨g1.same fun b hb => h b (g1.2 b hb).1 (by obtain ⟨_, _, hB, _⟩ := g1.2 b hb; exact (List.getElem?_eq_some_iff.1 hB).1), g2⟩
theorem TlO.mono (o : TlO m H p ps l) {m2 : Nat} (hm : m2 ≤ m) : TlO m2 H p ps l :=
  ⟨o.len, Nat.le_trans hm o.ge, o.blk, fun i x t hx ht => ⟨⟨(o.el i x t hx ht).1.1, fun b hb => ⟨Nat.le_trans hm ((o.el i x t hx ht).1.2 b hb).1, ((o.el i x t hx ht).1.2 b hb).2⟩⟩, (o.el i x t hx ht).2⟩⟩
theorem TlO.thaw (o : TlO m H p ps l) : Thaw m H (.sl p 0 l.length none) (boxE.lst l) := by
  obtain ⟨st, rest, h, hst⟩ := o.blk
  have hlen := o.len
  refine .sl p 0 _ _ _ _ o.ge h hst ?_ fun i a c ha hc => ?_
  · rw [boxE_row, List.length_map, List.length_append]; omega
  · rw [Nat.zero_add] at ha
    rw [boxE_row] at hc
    have hi : i < l.length := by have := (List.getElem?_eq_some_iff.1 hc).1; rwa [List.length_map] at this
    rw [List.getElem?_append_left (by omega)] at ha
    rw [List.getElem?_map, List.getElem?_eq_getElem hi] at hc
    cases hc
    exact (o.el _ _ _ ha (List.getElem?_eq_getElem hi)).1.thaw
end
def takeBx (b : List (List Tkt)) (js : List Int) : List (List Tkt) := js.foldl (fun b j => b.set j.toNat ((b[j.toNat]?.getD []).drop 1)) b
theorem takeBx_snoc (b : List (List Tkt)) (js : List Int) (k : Nat) : takeBx b (js ++ [(k : Int)]) = (takeBx b js).set k (((takeBx b js)[k]?.getD []).drop 1) := by
  unfold takeBx
  rw [List.foldl_append]
  simp only [List.foldl_cons, List.foldl_nil, Int.toNat_natCast]
theorem takeBx_length (b : List (List Tkt)) (js : List Int) : (takeBx b js).length = b.length := by
  unfold takeBx
  induction js generalizing b with
  | nil => rfl
  | cons j js ih => rw [List.foldl_cons, ih, List.length_set]
theorem takeBx_get {js : List Int} {k : Nat} : ∀ (b : List (List Tkt)), (∀ j ∈ js, ∃ k : Nat, j = k) → (k : Int) ∉ js → (takeBx b js)[k]? = b[k]? := by
  induction js with
  | nil => intro b _ _; rfl
  | cons j js ih =>
    intro b hj h
    have e : takeBx b (j :: js) = takeBx (b.set j.toNat ((b[j.toNat]?.getD []).drop 1)) js := rfl
    rw [e, ih _ (fun j hm => hj j (.tail _ hm)) (fun hm => h (.tail _ hm)), List.getElem?_set_ne]
    obtain ⟨z, rfl⟩ := hj j (.head _)
    intro e2
    rw [Int.toNat_natCast] at e2
    exact h (by rw [e2]; exact .head _)
theorem nodup_take {js : List Int} (h : js.Nodup) {i : Nat} (hi : i < js.length) : js[i] ∉ js.take i := fun hm => by
  obtain ⟨a, ha, e⟩ := List.getElem_of_mem hm
  rw [List.length_take] at ha
  rw [List.getElem_take] at e
  exact List.pairwise_iff_getElem.1 h a i (by omega) hi (by omega) e
def takeR (q : Que) (s : Int) : Que × Tkt × Int :=
  if ¬ q.may then (que0, tkt0, 8) else if s < 0 ∨ s ≥ q.bx.length then (que0, tkt0, 2) else if readyB q.bx s.toNat = false then (que0, tkt0, 6)
  else match q.bx[s.toNat]?.getD [] with
    | [] => (que0, tkt0, 6)
    | t :: _ => (⟨q.next, takeBx q.bx (shardsL t q.bx.length)⟩, t, 0)
theorem take_spec (q : Que) (s : Int) (hb : qFit q.bx) (H : Heap) :
    WC Try.prog 14 [q.av, .int .i64 s] H fun r H' => r = .tup [(takeR q s).1.av, (takeR q s).2.1.av, .int .i64 (takeR q s).2.2] ∧ H' = H := by
  refine WC_val fun K hK => ?_
  have ck := fun J => tcheck_spec q hb J
  by_cases hq : q.may
  rotate_left
  · rw [queE_bad hq] at ck
    rw [show takeR q s = (que0, tkt0, 8) by unfold takeR; rw [if_pos hq]] at hK
    unfold Que.av Tkt.av at *
    simp only at hK
    refine WC_of_body hT Try.func14 rfl (by simp [Try.f14]) (by simp [Try.f14]) (wx_sound hT _ ?_)
    simp only [Try.f14]
    repeat' (first | simp only [go_sem, Nat.reduceLT, Nat.reduceEqDiff, Nat.reduceAdd, Nat.reduceMul, Nat.reduceSub, Nat.reduceLeDiff, Int.reduceToNat, Int.reduceNeg, Int.reduceLT, Int.reduceLE, Int.reduceEq, reduceCtorEq, Int.natCast_zero, Int.natCast_one, Int.cast_ofNat_Int, Bool.not_not, false_eq_decide, true_eq_decide, hread0, hreadk, read_cons0, read_consk, astore_h0, astore_hk, hget0, hgetk, hset0, hsetk, hlen, hcat, Nat.add_assoc, Nat.add_zero, Nat.zero_add, List.length_append, and_true, true_and, AV.flat, *, -hK, -ck, -hq, -hb] | refine WC.call (ck _) ?_ | with_reducible refine IfB_dec (fun h => ?_) (fun h => ?_) | with_reducible refine Guard_dec (fun h => ?_) (fun h => ?_) | with_reducible refine Guard_ndec (fun h => ?_) (fun h => ?_) | with_reducible refine Guard_not (fun h => ?_) (fun h => ?_) | with_reducible refine IfB_ndec (fun h => ?_) (fun h => ?_) | with_reducible refine IfB_not (fun h => ?_) (fun h => ?_) | with_reducible refine Guard_split (fun h => ?_) (fun h => ?_) | with_reducible refine IfB_split (fun h => ?_) (fun h => ?_))
    refine hK _ _ ?_ (Keep.app _ _ _)
    exact Thaw.tup_row ⟨Thaw.agg_row ⟨.int _ _, .nils, trivial⟩, Thaw.agg_row (l' := [_, _, _, _, _, _, _, _, _, _, _, _]) ⟨.int _ _, .int _ _, .int _ _, .int _ _, .nils, .str _, .int _ _, .int _ _, .int _ _, .int _ _, .int _ _, .int _ _, trivial⟩, .int _ _, trivial⟩
  rw [queE_ok hq] at ck
  have htk : takeR q s = if s < 0 ∨ s ≥ q.bx.length then ((que0, tkt0, 2) : Que × Tkt × Int) else if readyB q.bx s.toNat = false then (que0, tkt0, 6)
      else match q.bx[s.toNat]?.getD [] with
        | [] => (que0, tkt0, 6)
        | t :: _ => (⟨q.next, takeBx q.bx (shardsL t q.bx.length)⟩, t, 0) := by unfold takeR; rw [if_neg (not_not_intro hq)]
  by_cases i1 : s < 0
  · rw [show takeR q s = (que0, tkt0, 2) by rw [htk, if_pos (.inl i1)]] at hK
    unfold Que.av Tkt.av at *
    simp only at hK
    refine WC_of_body hT Try.func14 rfl (by simp [Try.f14]) (by simp [Try.f14]) (wx_sound hT _ ?_)
    simp only [Try.f14]
    repeat' (first | simp only [go_sem, Nat.reduceLT, Nat.reduceEqDiff, Nat.reduceAdd, Nat.reduceMul, Nat.reduceSub, Nat.reduceLeDiff, Int.reduceToNat, Int.reduceNeg, Int.reduceLT, Int.reduceLE, Int.reduceEq, reduceCtorEq, Int.natCast_zero, Int.natCast_one, Int.cast_ofNat_Int, Bool.not_not, false_eq_decide, true_eq_decide, hread0, hreadk, read_cons0, read_consk, astore_h0, astore_hk, hget0, hgetk, hset0, hsetk, hlen, hcat, Nat.add_assoc, Nat.add_zero, Nat.zero_add, List.length_append, and_true, true_and, AV.flat, *, -hK, -ck, -hq, -hb, -htk] | refine WC.call (ck _) ?_ | with_reducible refine IfB_dec (fun h => ?_) (fun h => ?_) | with_reducible refine Guard_dec (fun h => ?_) (fun h => ?_) | with_reducible refine Guard_ndec (fun h => ?_) (fun h => ?_) | with_reducible refine Guard_not (fun h => ?_) (fun h => ?_) | with_reducible refine IfB_ndec (fun h => ?_) (fun h => ?_) | with_reducible refine IfB_not (fun h => ?_) (fun h => ?_) | with_reducible refine Guard_split (fun h => ?_) (fun h => ?_) | with_reducible refine IfB_split (fun h => ?_) (fun h => ?_))
    refine hK _ _ ?_ (Keep.app _ _ _)
    exact Thaw.tup_row ⟨Thaw.agg_row ⟨.int _ _, .nils, trivial⟩, Thaw.agg_row (l' := [_, _, _, _, _, _, _, _, _, _, _, _]) ⟨.int _ _, .int _ _, .int _ _, .int _ _, .nils, .str _, .int _ _, .int _ _, .int _ _, .int _ _, .int _ _, .int _ _, trivial⟩, .int _ _, trivial⟩
  by_cases i2 : s ≥ q.bx.length
  · rw [show takeR q s = (que0, tkt0, 2) by rw [htk, if_pos (.inr i2)]] at hK
    unfold Que.av Tkt.av at *
    simp only at hK
    refine WC_of_body hT Try.func14 rfl (by simp [Try.f14]) (by simp [Try.f14]) (wx_sound hT _ ?_)
    simp only [Try.f14]
    repeat' (first | simp only [go_sem, Nat.reduceLT, Nat.reduceEqDiff, Nat.reduceAdd, Nat.reduceMul, Nat.reduceSub, Nat.reduceLeDiff, Int.reduceToNat, Int.reduceNeg, Int.reduceLT, Int.reduceLE, Int.reduceEq, reduceCtorEq, Int.natCast_zero, Int.natCast_one, Int.cast_ofNat_Int, Bool.not_not, false_eq_decide, true_eq_decide, hread0, hreadk, read_cons0, read_consk, astore_h0, astore_hk, hget0, hgetk, hset0, hsetk, hlen, hcat, Nat.add_assoc, Nat.add_zero, Nat.zero_add, List.length_append, and_true, true_and, AV.flat, *, -hK, -ck, -hq, -hb, -htk] | refine WC.call (ck _) ?_ | with_reducible refine IfB_dec (fun h => ?_) (fun h => ?_) | with_reducible refine Guard_dec (fun h => ?_) (fun h => ?_) | with_reducible refine Guard_ndec (fun h => ?_) (fun h => ?_) | with_reducible refine Guard_not (fun h => ?_) (fun h => ?_) | with_reducible refine IfB_ndec (fun h => ?_) (fun h => ?_) | with_reducible refine IfB_not (fun h => ?_) (fun h => ?_) | with_reducible refine Guard_split (fun h => ?_) (fun h => ?_) | with_reducible refine IfB_split (fun h => ?_) (fun h => ?_))
    refine hK _ _ ?_ (Keep.app _ _ _)
    exact Thaw.tup_row ⟨Thaw.agg_row ⟨.int _ _, .nils, trivial⟩, Thaw.agg_row (l' := [_, _, _, _, _, _, _, _, _, _, _, _]) ⟨.int _ _, .int _ _, .int _ _, .int _ _, .nils, .str _, .int _ _, .int _ _, .int _ _, .int _ _, .int _ _, .int _ _, trivial⟩, .int _ _, trivial⟩
  rw [if_neg (by omega)] at htk
  obtain ⟨k, rfl⟩ : ∃ k : Nat, s = k := ⟨s.toNat, by omega⟩
  rw [Int.toNat_natCast] at htk
  have hk : k < q.bx.length := by omega
  have rd := fun J => ready_spec q hq hb k hk J
  cases hr : readyB q.bx k with
  | false =>
    rw [hr] at rd
    rw [show takeR q k = (que0, tkt0, 6) by rw [htk, if_pos hr]] at hK
    unfold Que.av Tkt.av at *
    simp only at hK
    refine WC_of_body hT Try.func14 rfl (by simp [Try.f14]) (by simp [Try.f14]) (wx_sound hT _ ?_)
    simp only [Try.f14]
    repeat' (first | simp only [go_sem, Nat.reduceLT, Nat.reduceEqDiff, Nat.reduceAdd, Nat.reduceMul, Nat.reduceSub, Nat.reduceLeDiff, Int.reduceToNat, Int.reduceNeg, Int.reduceLT, Int.reduceLE, Int.reduceEq, reduceCtorEq, Int.natCast_zero, Int.natCast_one, Int.cast_ofNat_Int, Bool.not_not, false_eq_decide, true_eq_decide, hread0, hreadk, read_cons0, read_consk, astore_h0, astore_hk, hget0, hgetk, hset0, hsetk, hlen, hcat, Nat.add_assoc, Nat.add_zero, Nat.zero_add, List.length_append, and_true, true_and, AV.flat, *, -hK, -ck, -hq, -hb, -htk, -rd, -hr] | refine WC.call (ck _) ?_ | refine WC.call (rd _) ?_ | with_reducible refine IfB_dec (fun h => ?_) (fun h => ?_) | with_reducible refine Guard_dec (fun h => ?_) (fun h => ?_) | with_reducible refine Guard_ndec (fun h => ?_) (fun h => ?_) | with_reducible refine Guard_not (fun h => ?_) (fun h => ?_) | with_reducible refine IfB_ndec (fun h => ?_) (fun h => ?_) | with_reducible refine IfB_not (fun h => ?_) (fun h => ?_) | with_reducible refine Guard_split (fun h => ?_) (fun h => ?_) | with_reducible refine IfB_split (fun h => ?_) (fun h => ?_))
    refine hK _ _ ?_ (Keep.app _ _ _)
    exact Thaw.tup_row ⟨Thaw.agg_row ⟨.int _ _, .nils, trivial⟩, Thaw.agg_row (l' := [_, _, _, _, _, _, _, _, _, _, _, _]) ⟨.int _ _, .int _ _, .int _ _, .int _ _, .nils, .str _, .int _ _, .int _ _, .int _ _, .int _ _, .int _ _, .int _ _, trivial⟩, .int _ _, trivial⟩
  | true =>
  rw [hr] at rd
  rw [if_neg (by rw [hr]; decide)] at htk
  have hne : q.bx[k] ≠ [] := fun e => by
    unfold readyB at hr
    rw [List.getElem?_eq_getElem hk, e] at hr
    cases hr
  have hall := hq.2.2.2.2
  have hbx := (hall _ (List.getElem_mem hk)).2
  obtain ⟨t, l, hbk⟩ : ∃ t l, q.bx[k] = t :: l := by
    cases h : q.bx[k] with
    | nil => exact absurd h hne
    | cons t l => exact ⟨t, l, rfl⟩
  rw [List.getElem?_eq_getElem hk, Option.getD_some, hbk] at htk
  simp only at htk
  rw [htk] at hK
  simp only at hK
  clear htk
  have hw := (boxB_mem hbx t (by rw [hbk]; exact .head _)).2
  have hnod := shardsL_nodup t q.bx.length
  have hjs : ∀ j ∈ shardsL t q.bx.length, ∃ k : Nat, j = k ∧ ∃ h : k < q.bx.length, q.bx[k] ≠ [] := fun j hj => by
    rw [← hw] at hj
    obtain ⟨k, rfl, hk, htk⟩ := mem_whereL.1 hj
    exact ⟨k, rfl, hk, fun e => by rw [e] at htk; cases htk⟩
  obtain ⟨hq1, hq2⟩ := (hb.2 _ (List.getElem_mem hk)).2 t (by rw [hbk]; exact .head _)
  have sh := fun J => tshards_spec t q.bx.length hq.2.1 hq1 hq2 J
  have tw := fun J => twin_own q hb.1 hb J
  have c1 := fun J => one_spec t (by omega) J
  have hl4 := hq.2.1
  have hsl := shardsL_len t q.bx.length
  clear hw hall hbx hr hne hb hq
  obtain ⟨nx, bs⟩ := q
  simp only at hl4 hK sh hsl hjs hnod ck rd tw hk hbk i2
  have hplen := fun js => takeBx_length bs js
  have hpst := fun js k => takeBx_snoc bs js k
  have hp0 : takeBx bs [] = bs := rfl
  have hpget := fun js k => takeBx_get (js := js) (k := k) bs
  generalize takeBx bs = pb at *
  generalize shardsL t bs.length = js at *
  unfold Que.av Tkt.av at *
  simp only at ck tw rd
  refine WC_of_body hT Try.func14 rfl (by simp [Try.f14]) (by simp [Try.f14]) (wx_sound hT _ ?_)
  simp only [Try.f14]
  repeat' (first | simp only [go_sem, Nat.reduceLT, Nat.reduceEqDiff, Nat.reduceAdd, Nat.reduceMul, Nat.reduceSub, Nat.reduceLeDiff, Int.reduceToNat, Int.reduceNeg, Int.reduceLT, Int.reduceLE, Int.reduceEq, reduceCtorEq, Int.natCast_zero, Int.natCast_one, Int.cast_ofNat_Int, Bool.not_not, false_eq_decide, true_eq_decide, hread0, hreadk, read_cons0, read_consk, astore_h0, astore_hk, hget0, hgetk, hset0, hsetk, hlen, hcat, Nat.add_assoc, Nat.add_zero, Nat.zero_add, List.length_append, and_true, true_and, AV.flat, *, -hK, -ck, -rd, -sh, -c1, -tw, -hjs, -hplen, -hpst, -hp0, -hpget, -hnod, -hbk, -hq1, -hq2] | refine WC.call (ck _) ?_ | refine WC.call (rd _) ?_ | with_reducible refine IfB_dec (fun h => ?_) (fun h => ?_) | with_reducible refine Guard_dec (fun h => ?_) (fun h => ?_) | with_reducible refine Guard_ndec (fun h => ?_) (fun h => ?_) | with_reducible refine Guard_not (fun h => ?_) (fun h => ?_) | with_reducible refine IfB_ndec (fun h => ?_) (fun h => ?_) | with_reducible refine IfB_not (fun h => ?_) (fun h => ?_) | with_reducible refine Guard_split (fun h => ?_) (fun h => ?_) | with_reducible refine IfB_split (fun h => ?_) (fun h => ?_))
  refine (tw _).mono ?_
  rintro _ H1 ⟨⟨p, ps, rfl, W⟩, kH⟩
  clear tw ck rd
  simp only [List.length_append, List.length_cons, List.length_nil, Nat.zero_add, Nat.reduceAdd] at W
  have hH1 : H.length + 3 ≤ H1.length := by have := kH.len; simpa using this
  have y1 : H1[H.length + 1]? = some (⟨[.int .i64 0, .nils], 0, .full⟩ : Blk) := kH.get (by rw [hgetk]; rfl) (by simp)
  have y2 : H1[H.length + 2]? = some (⟨[.int .i64 0, .int .u8 0, .int .u8 0, .int .i64 0, .nils, .str [], .int .u32 0, .int .i64 0, .int .u64 0, .int .u64 0, .int .i64 0, .int .i64 0], 0, .full⟩ : Blk) := kH.get (by rw [hgetk]; rfl) (by simp)
  obtain ⟨x, hx, hgx, ow, hxp⟩ := W.get (i := k) hk
  rw [hbk] at ow
  have W1 := W.keep (Keep.app none H1 [(⟨[.int .i64 nx, .sl p 0 bs.length none], 0, .full⟩ : Blk)])
  have ad := BxO.addr (p := p) (T' := T) se22 hk
  have rd := W1.read hx
  obtain ⟨b0, o0, ai, rd0, hb0⟩ := (ow.keep0 (Keep.app none H1 [(⟨[.int .i64 nx, .sl p 0 bs.length none], 0, .full⟩ : Blk)])).at_ (by decide) se31 (i := 0) (by simp) (k := .i64) (z := 0) rfl
  rw [List.getElem_cons_zero, tktE_cells] at rd0
  rw [show tktE.sz = 12 from rfl] at rd0
  have hxo := ow.one
  repeat' (first | simp only [go_sem, Nat.reduceLT, Nat.reduceEqDiff, Nat.reduceAdd, Nat.reduceMul, Nat.reduceSub, Nat.reduceLeDiff, Int.reduceToNat, Int.reduceNeg, Int.reduceLT, Int.reduceLE, Int.reduceEq, reduceCtorEq, Int.natCast_zero, Int.natCast_one, Int.cast_ofNat_Int, Bool.not_not, false_eq_decide, true_eq_decide, hread0, hreadk, read_cons0, read_consk, astore_h0, astore_hk, hget0, hgetk, hset0, hsetk, hlen, hcat, Nat.add_assoc, Nat.add_zero, Nat.zero_add, List.length_append, and_true, true_and, AV.flat, hxo, one_solid hxo, one_cells hxo, *, -hK, -sh, -c1, -hjs, -hplen, -hpst, -hp0, -hpget, -hnod, -hbk, -hq1, -hq2, -W, -W1, -kH, -hH1, -y1, -y2, -hx, -hgx, -ow, -hxp, -hb0] | with_reducible refine IfB_dec (fun h => ?_) (fun h => ?_) | with_reducible refine Guard_dec (fun h => ?_) (fun h => ?_) | with_reducible refine Guard_ndec (fun h => ?_) (fun h => ?_) | with_reducible refine Guard_not (fun h => ?_) (fun h => ?_) | with_reducible refine IfB_ndec (fun h => ?_) (fun h => ?_) | with_reducible refine IfB_not (fun h => ?_) (fun h => ?_) | with_reducible refine Guard_split (fun h => ?_) (fun h => ?_) | with_reducible refine IfB_split (fun h => ?_) (fun h => ?_))
  have x3 : (H1 ++ [(⟨[.int .i64 nx, .sl p 0 bs.length none], 0, .full⟩ : Blk), (⟨[.int .i64 t.num, .int .u8 t.kind, .int .u8 t.cmd.kind, .int .i64 t.cmd.ten, Enc.str.lst t.cmd.keys, .str t.cmd.val, .int .u32 t.cmd.flags, .int .i64 t.cmd.for_, .int .u64 t.cmd.uniq, .int .u64 t.cmd.by_, .int .i64 t.ten, .int .i64 t.to], 0, .full⟩ : Blk)])[H1.length]? = some (⟨[.int .i64 nx, .sl p 0 bs.length none], 0, .full⟩ : Blk) := by simp
  refine (sh _).mono ?_
  rintro _ J9 ⟨rfl, hJ9⟩
  subst hJ9
  clear sh
  repeat' (first | simp only [go_sem, Nat.reduceLT, Nat.reduceEqDiff, Nat.reduceAdd, Nat.reduceMul, Nat.reduceSub, Nat.reduceLeDiff, Int.reduceToNat, Int.reduceNeg, Int.reduceLT, Int.reduceLE, Int.reduceEq, reduceCtorEq, Int.natCast_zero, Int.natCast_one, Int.cast_ofNat_Int, Bool.not_not, false_eq_decide, true_eq_decide, hread0, hreadk, read_cons0, read_consk, astore_h0, astore_hk, hget0, hgetk, hset0, hsetk, hlen, hcat, Nat.add_assoc, Nat.add_zero, Nat.zero_add, List.length_append, and_true, true_and, AV.flat, x3, get_app x3, read_get x3, read_app x3, hxo, one_solid hxo, one_cells hxo, *, -hK, -c1, -hjs, -hplen, -hpst, -hp0, -hpget, -hnod, -hbk, -hq1, -hq2, -W, -W1, -kH, -hH1, -y1, -y2, -hx, -hgx, -ow, -hxp, -hb0, -rd, -rd0, -ai, -ad] | with_reducible refine IfB_dec (fun h => ?_) (fun h => ?_) | with_reducible refine Guard_dec (fun h => ?_) (fun h => ?_) | with_reducible refine Guard_ndec (fun h => ?_) (fun h => ?_) | with_reducible refine Guard_not (fun h => ?_) (fun h => ?_) | with_reducible refine IfB_ndec (fun h => ?_) (fun h => ?_) | with_reducible refine IfB_not (fun h => ?_) (fun h => ?_) | with_reducible refine Guard_split (fun h => ?_) (fun h => ?_) | with_reducible refine IfB_split (fun h => ?_) (fun h => ?_))
  have hpl := W.lt
  have hpg := W.ge
  generalize hG : (H1 ++ [(⟨[.int .i64 nx, .sl p 0 bs.length none], 0, .full⟩ : Blk), (⟨[.int .i64 t.num, .int .u8 t.kind, .int .u8 t.cmd.kind, .int .i64 t.cmd.ten, Enc.str.lst t.cmd.keys, .str t.cmd.val, .int .u32 t.cmd.flags, .int .i64 t.cmd.for_, .int .u64 t.cmd.uniq, .int .u64 t.cmd.by_, .int .i64 t.ten, .int .i64 t.to], 0, .full⟩ : Blk)] : Heap) = G
  have x1 : G[H.length + 1]? = some (⟨[.int .i64 0, .nils], 0, .full⟩ : Blk) := by rw [← hG]; exact get_app y1 _
  have x2 : G[H.length + 2]? = some (⟨[.int .i64 0, .int .u8 0, .int .u8 0, .int .i64 0, .nils, .str [], .int .u32 0, .int .i64 0, .int .u64 0, .int .u64 0, .int .i64 0, .int .i64 0], 0, .full⟩ : Blk) := by rw [← hG]; exact get_app y2 _
  have x4 : G[H1.length + 1]? = some (⟨[.int .i64 t.num, .int .u8 t.kind, .int .u8 t.cmd.kind, .int .i64 t.cmd.ten, Enc.str.lst t.cmd.keys, .str t.cmd.val, .int .u32 t.cmd.flags, .int .i64 t.cmd.for_, .int .u64 t.cmd.uniq, .int .u64 t.cmd.by_, .int .i64 t.ten, .int .i64 t.to], 0, .full⟩ : Blk) := by rw [← hG]; simp
  rw [hG] at x3
  have kG : Keep none H G := by rw [← hG]; exact (((Keep.app none H _).trans kH).trans (Keep.app none _ _))
  have WG : TlO (H.length + 3) G p ps bs := by rw [← hG]; exact (W.keep (Keep.app none H1 _)).tl
  generalize H1.length = ob at *
  clear hG y1 y2 kH W W1 hx hgx ow hxp hb0 rd rd0 ai ad hxo
  rw [← hp0] at WG
  refine WX_loopS [4, 5, 8, 9, 49, 50] (fun k fr' J => ∃ (i : Nat) (qs : List AV), k = js.length - i ∧ i ≤ js.length ∧ fr'.get 51 = .int .i64 i ∧ Keep none H J ∧ J[H.length + 1]? = some (⟨[.int .i64 0, .nils], 0, .full⟩ : Blk) ∧ J[H.length + 2]? = some (⟨[.int .i64 0, .int .u8 0, .int .u8 0, .int .i64 0, .nils, .str [], .int .u32 0, .int .i64 0, .int .u64 0, .int .u64 0, .int .i64 0, .int .i64 0], 0, .full⟩ : Blk) ∧ J[ob]? = some (⟨[.int .i64 nx, .sl p 0 bs.length none], 0, .full⟩ : Blk) ∧ J[ob + 1]? = some (⟨[.int .i64 t.num, .int .u8 t.kind, .int .u8 t.cmd.kind, .int .i64 t.cmd.ten, Enc.str.lst t.cmd.keys, .str t.cmd.val, .int .u32 t.cmd.flags, .int .i64 t.cmd.for_, .int .u64 t.cmd.uniq, .int .u64 t.cmd.by_, .int .i64 t.ten, .int .i64 t.to], 0, .full⟩ : Blk) ∧ TlO (H.length + 3) J p qs (pb (js.take i))) js.length ⟨0, ps, rfl, by omega, by simp only [go_sem, Nat.reduceLT, Nat.reduceEqDiff, Nat.reduceAdd, Nat.reduceMul, Nat.reduceSub, Nat.reduceLeDiff, Int.reduceToNat, Int.reduceNeg, Int.reduceLT, Int.reduceLE, Int.reduceEq, reduceCtorEq]; rfl, kG, x1, x2, x3, x4, WG⟩ ?_
  clear WG x1 x2 x3 x4 kG
  rintro kn fr' J A R hA hs hg hR ⟨i, qs, rfl, hi, f51, kJ, g1, g2, g3, g4, W⟩
  have s4 := hg 4 (by decide)
  have s5 := hg 5 (by decide)
  have s8 := hg 8 (by decide)
  have s9 := hg 9 (by decide)
  have s49 := hg 49 (by decide)
  have s50 := hg 50 (by decide)
  simp only [Fr.get_put, Fr.get_init, List.getD_cons_zero, List.getD_cons_succ, Nat.reduceEqDiff, if_true, if_false] at s4 s5 s8 s9 s49 s50
  refine wx_sound hT _ ?_
  have hJl := (List.getElem?_eq_some_iff.1 g4).1
  have hpl2 := W.lt
  by_cases hli : i < js.length
  rotate_left
  · have i5 : ¬ (i : Int) < js.length := by omega
    have hie : i = js.length := by omega
    rw [hie, List.take_length] at W
    have wn : 1 = 1 := rfl
    repeat' (first | simp only [go_sem, Nat.reduceLT, Nat.reduceEqDiff, Nat.reduceAdd, Nat.reduceMul, Nat.reduceSub, Nat.reduceLeDiff, Int.reduceToNat, Int.reduceNeg, Int.reduceLT, Int.reduceLE, Int.reduceEq, reduceCtorEq, Int.natCast_zero, Int.natCast_one, Int.cast_ofNat_Int, Bool.not_not, false_eq_decide, true_eq_decide, hread0, hreadk, read_cons0, read_consk, astore_h0, astore_hk, hget0, hgetk, hset0, hsetk, hlen, hcat, Nat.add_assoc, Nat.add_zero, Nat.zero_add, List.length_append, and_true, true_and, AV.flat, g3, get_app g3, read_get g3, read_app g3, g4, get_app g4, read_get g4, read_app g4, *, -hK, -c1, -hjs, -hplen, -hpst, -hp0, -hpget, -hnod, -hbk, -hq1, -hq2, -W, -kJ, -g1, -g2, -hli, -hie, -hJl, -hpl2] | with_reducible refine IfB_dec (fun h => ?_) (fun h => ?_) | with_reducible refine Guard_dec (fun h => ?_) (fun h => ?_) | with_reducible refine Guard_ndec (fun h => ?_) (fun h => ?_) | with_reducible refine Guard_not (fun h => ?_) (fun h => ?_) | with_reducible refine IfB_ndec (fun h => ?_) (fun h => ?_) | with_reducible refine IfB_not (fun h => ?_) (fun h => ?_) | with_reducible refine Guard_split (fun h => ?_) (fun h => ?_) | with_reducible refine IfB_split (fun h => ?_) (fun h => ?_))
    refine WX_rows hT hmix [(0, none), (1, none), (2, some [true, false]), (3, some [true, true, true]), (4, some [true, true, true, true]), (5, none)] (by kernel_rfl) ?_
    repeat' (first | simp only [go_sem, Nat.reduceLT, Nat.reduceEqDiff, Nat.reduceAdd, Nat.reduceMul, Nat.reduceSub, Nat.reduceLeDiff, Int.reduceToNat, Int.reduceNeg, Int.reduceLT, Int.reduceLE, Int.reduceEq, reduceCtorEq, Int.natCast_zero, Int.natCast_one, Int.cast_ofNat_Int, Bool.not_not, false_eq_decide, true_eq_decide, hread0, hreadk, read_cons0, read_consk, astore_h0, astore_hk, hget0, hgetk, hset0, hsetk, hlen, hcat, Nat.add_assoc, Nat.add_zero, Nat.zero_add, List.length_append, and_true, true_and, AV.flat, g3, get_app g3, read_get g3, read_app g3, g4, get_app g4, read_get g4, read_app g4, *, -hK, -c1, -hjs, -hplen, -hpst, -hp0, -hpget, -hnod, -hbk, -hq1, -hq2, -W, -kJ, -g1, -g2, -hli, -hie, -hJl, -hpl2] | with_reducible refine IfB_dec (fun h => ?_) (fun h => ?_) | with_reducible refine Guard_dec (fun h => ?_) (fun h => ?_) | with_reducible refine Guard_ndec (fun h => ?_) (fun h => ?_) | with_reducible refine Guard_not (fun h => ?_) (fun h => ?_) | with_reducible refine IfB_ndec (fun h => ?_) (fun h => ?_) | with_reducible refine IfB_not (fun h => ?_) (fun h => ?_) | with_reducible refine Guard_split (fun h => ?_) (fun h => ?_) | with_reducible refine IfB_split (fun h => ?_) (fun h => ?_))
    refine (c1 _).mono ?_
    rintro _ J9 ⟨rfl, hJ9⟩
    replace hJ9 := hJ9.symm
    subst hJ9
    have u2 : (List.set J (H.length + 1) (⟨[.int .i64 nx, .sl p 0 bs.length none], 0, .full⟩ : Blk))[H.length + 2]? = some (⟨[.int .i64 0, .int .u8 0, .int .u8 0, .int .i64 0, .nils, .str [], .int .u32 0, .int .i64 0, .int .u64 0, .int .u64 0, .int .i64 0, .int .i64 0], 0, .full⟩ : Blk) := by rw [List.getElem?_set_ne (by omega)]; exact g2
    have u3 : (List.set J (H.length + 1) (⟨[.int .i64 nx, .sl p 0 bs.length none], 0, .full⟩ : Blk))[ob]? = some (⟨[.int .i64 nx, .sl p 0 bs.length none], 0, .full⟩ : Blk) := by rw [List.getElem?_set_ne (by omega)]; exact g3
    have u4 : (List.set J (H.length + 1) (⟨[.int .i64 nx, .sl p 0 bs.length none], 0, .full⟩ : Blk))[ob + 1]? = some (⟨[.int .i64 t.num, .int .u8 t.kind, .int .u8 t.cmd.kind, .int .i64 t.cmd.ten, Enc.str.lst t.cmd.keys, .str t.cmd.val, .int .u32 t.cmd.flags, .int .i64 t.cmd.for_, .int .u64 t.cmd.uniq, .int .u64 t.cmd.by_, .int .i64 t.ten, .int .i64 t.to], 0, .full⟩ : Blk) := by rw [List.getElem?_set_ne (by omega)]; exact g4
    have W2 := (W.low (G := List.set (List.set J (H.length + 1) (⟨[.int .i64 nx, .sl p 0 bs.length none], 0, .full⟩ : Blk)) (H.length + 2) (⟨[.int .i64 t.num, .int .u8 t.kind, .int .u8 t.cmd.kind, .int .i64 t.cmd.ten, Enc.str.lst t.cmd.keys, .str t.cmd.val, .int .u32 t.cmd.flags, .int .i64 t.cmd.for_, .int .u64 t.cmd.uniq, .int .u64 t.cmd.by_, .int .i64 t.ten, .int .i64 t.to], 0, .full⟩ : Blk)) fun b h1 h2 => by rw [List.getElem?_set_ne (by omega), List.getElem?_set_ne (by omega)]).mono (m2 := H.length) (by omega)
    have kF : Keep none H (List.set (List.set J (H.length + 1) (⟨[.int .i64 nx, .sl p 0 bs.length none], 0, .full⟩ : Blk)) (H.length + 2) (⟨[.int .i64 t.num, .int .u8 t.kind, .int .u8 t.cmd.kind, .int .i64 t.cmd.ten, Enc.str.lst t.cmd.keys, .str t.cmd.val, .int .u32 t.cmd.flags, .int .i64 t.cmd.for_, .int .u64 t.cmd.uniq, .int .u64 t.cmd.by_, .int .i64 t.ten, .int .i64 t.to], 0, .full⟩ : Blk)) := ⟨by rw [List.length_set, List.length_set]; exact kJ.len, fun b hb2 _ => by rw [List.getElem?_set_ne (by omega), List.getElem?_set_ne (by omega)]; exact kJ.at_ b hb2 (by simp)⟩
    have th := W2.thaw
    rw [hplen] at th
    have u6 : (List.set (List.set J (H.length + 1) (⟨[.int .i64 nx, .sl p 0 bs.length none], 0, .full⟩ : Blk)) (H.length + 2) (⟨[.int .i64 t.num, .int .u8 t.kind, .int .u8 t.cmd.kind, .int .i64 t.cmd.ten, Enc.str.lst t.cmd.keys, .str t.cmd.val, .int .u32 t.cmd.flags, .int .i64 t.cmd.for_, .int .u64 t.cmd.uniq, .int .u64 t.cmd.by_, .int .i64 t.ten, .int .i64 t.to], 0, .full⟩ : Blk))[H.length + 1]? = some (⟨[.int .i64 nx, .sl p 0 bs.length none], 0, .full⟩ : Blk) := by rw [List.getElem?_set_ne (by omega), List.getElem?_set_self (by omega)]
    repeat' (first | simp only [go_sem, Nat.reduceLT, Nat.reduceEqDiff, Nat.reduceAdd, Nat.reduceMul, Nat.reduceSub, Nat.reduceLeDiff, Int.reduceToNat, Int.reduceNeg, Int.reduceLT, Int.reduceLE, Int.reduceEq, reduceCtorEq, Int.natCast_zero, Int.natCast_one, Int.cast_ofNat_Int, Bool.not_not, false_eq_decide, true_eq_decide, hread0, hreadk, read_cons0, read_consk, astore_h0, astore_hk, hget0, hgetk, hset0, hsetk, hlen, hcat, Nat.add_assoc, Nat.add_zero, Nat.zero_add, List.length_append, and_true, true_and, AV.flat, g3, get_app g3, read_get g3, read_app g3, g4, get_app g4, read_get g4, read_app g4, u6, get_app u6, read_get u6, read_app u6, u3, get_app u3, read_get u3, read_app u3, u4, get_app u4, read_get u4, read_app u4, g1, get_app g1, read_get g1, read_app g1, astore_get g1, astore_app g1, get_set g1, get_set_app g1, read_set g1, read_set_app g1, astore_set g1, astore_set_app g1, List.set_set, hget0s, hgetks, hread0s, hreadks, List.length_set, u2, get_app u2, read_get u2, read_app u2, astore_get u2, astore_app u2, get_set u2, get_set_app u2, read_set u2, read_set_app u2, astore_set u2, astore_set_app u2, List.set_set, hget0s, hgetks, hread0s, hreadks, List.length_set, *, -hK, -c1, -hjs, -hplen, -hpst, -hp0, -hpget, -hnod, -hbk, -hq1, -hq2, -W, -kJ, -hli, -hie, -hJl, -hpl2, -W2, -kF, -th] | with_reducible refine IfB_dec (fun h => ?_) (fun h => ?_) | with_reducible refine Guard_dec (fun h => ?_) (fun h => ?_) | with_reducible refine Guard_ndec (fun h => ?_) (fun h => ?_) | with_reducible refine Guard_not (fun h => ?_) (fun h => ?_) | with_reducible refine IfB_ndec (fun h => ?_) (fun h => ?_) | with_reducible refine IfB_not (fun h => ?_) (fun h => ?_) | with_reducible refine Guard_split (fun h => ?_) (fun h => ?_) | with_reducible refine IfB_split (fun h => ?_) (fun h => ?_))
    refine hK _ _ ?_ kF
    exact Thaw.tup_row (l' := [_, _, _]) ⟨Thaw.agg_row ⟨.int _ _, th, trivial⟩, Thaw.agg_row ⟨.int _ _, .int _ _, .int _ _, .int _ _, .lst _ _, .str _, .int _ _, .int _ _, .int _ _, .int _ _, .int _ _, .int _ _, trivial⟩, .int _ _, trivial⟩
  have i5 : (i : Int) < js.length := by omega
  have e7 := inc_id hli (by omega)
  have e8 := at_enc (E := Enc.int .i64) (T := T) (k := .i64) se27 hli rfl
  rw [int_cells] at e8
  obtain ⟨kk, hkk, hkl, hkne⟩ := hjs _ (List.getElem_mem hli)
  have hpl1 : kk < (pb (js.take i)).length := by rw [hplen]; exact hkl
  obtain ⟨x, hx, hgx, ow, hxp⟩ := W.get (i := kk) hpl1
  have hold : (pb (js.take i))[kk] = bs[kk] := by
    have h1 := hpget (js.take i) kk (fun j hj => by obtain ⟨z, hz, _⟩ := hjs j (List.mem_of_mem_take hj); exact ⟨z, hz⟩) (by rw [← hkk]; exact nodup_take hnod hli)
    rw [List.getElem?_eq_getElem hpl1, List.getElem?_eq_getElem hkl] at h1
    exact Option.some.inj h1
  obtain ⟨u, ul, hu⟩ : ∃ u ul, bs[kk] = u :: ul := by
    cases h : bs[kk] with
    | nil => exact absurd h hkne
    | cons u ul => exact ⟨u, ul, rfl⟩
  rw [hold, hu] at ow
  have hst : pb (js.take (i + 1)) = (pb (js.take i)).set kk ul := by
    rw [List.take_succ_eq_append_getElem hli, hkk, hpst, List.getElem?_eq_getElem hpl1, hold, hu]; rfl
  have back2 : ∀ fr2 J3 qs2, A fr2 → fr2.get 51 = .int .i64 ((i + 1 : Nat) : Int) → Keep none H J3 → J3[H.length + 1]? = some (⟨[.int .i64 0, .nils], 0, .full⟩ : Blk) → J3[H.length + 2]? = some (⟨[.int .i64 0, .int .u8 0, .int .u8 0, .int .i64 0, .nils, .str [], .int .u32 0, .int .i64 0, .int .u64 0, .int .u64 0, .int .i64 0, .int .i64 0], 0, .full⟩ : Blk) → J3[ob]? = some (⟨[.int .i64 nx, .sl p 0 bs.length none], 0, .full⟩ : Blk) → J3[ob + 1]? = some (⟨[.int .i64 t.num, .int .u8 t.kind, .int .u8 t.cmd.kind, .int .i64 t.cmd.ten, Enc.str.lst t.cmd.keys, .str t.cmd.val, .int .u32 t.cmd.flags, .int .i64 t.cmd.for_, .int .u64 t.cmd.uniq, .int .u64 t.cmd.by_, .int .i64 t.ten, .int .i64 t.to], 0, .full⟩ : Blk) → TlO (H.length + 3) J3 p qs2 ((pb (js.take i)).set kk ul) → R fr2 J3 := fun fr2 J3 qs2 ha j1 j2 j3 j4 j5 j6 j7 => hR fr2 J3 ha (js.length - (i + 1)) (by omega) ⟨i + 1, qs2, rfl, by omega, j1, j2, j3, j4, j5, j6, by rw [hst]; exact j7⟩
  rw [hkk] at e8
  have ad := BxO.addr (p := p) (T' := T) se22 hkl
  obtain ⟨y, hy1, hy2, hy3⟩ := ow.tail (T' := T) se31
  have rd := W.read hx
  have hys : y.solid = true ∧ y.cells = [y] := by
    rcases hy2.1.2 with ⟨rfl, _⟩ | ⟨rfl, _⟩ | ⟨b, o, cap, B, rfl, _⟩ <;> exact ⟨rfl, rfl⟩
  obtain ⟨st, rest, hsto, w1⟩ := W.store (T' := T) hx (te := 31) (by simp only [asize, td31, Option.map_some]) hys.1 hys.2
  have W2 := W.upd hx hy2 hy3 rest st hsto
  have hxo := ow.1.one
  have hyo := hy2.1.one
  have hpg2 := W.ge
  have kJ3 : Keep none H (List.set J p ⟨qs.set kk y ++ rest, 1, st⟩) := ⟨by rw [List.length_set]; exact kJ.len, fun b hb _ => by rw [List.getElem?_set_ne (by omega)]; exact kJ.at_ b hb (by simp)⟩
  generalize hG3 : (List.set J p ⟨qs.set kk y ++ rest, 1, st⟩ : Heap) = J4 at *
  have y3 : J4[H.length + 1]? = some (⟨[.int .i64 0, .nils], 0, .full⟩ : Blk) := by rw [← hG3, List.getElem?_set_ne (by omega)]; exact g1
  have y4 : J4[H.length + 2]? = some (⟨[.int .i64 0, .int .u8 0, .int .u8 0, .int .i64 0, .nils, .str [], .int .u32 0, .int .i64 0, .int .u64 0, .int .u64 0, .int .i64 0, .int .i64 0], 0, .full⟩ : Blk) := by rw [← hG3, List.getElem?_set_ne (by omega)]; exact g2
  have y5 : J4[ob]? = some (⟨[.int .i64 nx, .sl p 0 bs.length none], 0, .full⟩ : Blk) := by rw [← hG3, List.getElem?_set_ne (by omega)]; exact g3
  have y6 : J4[ob + 1]? = some (⟨[.int .i64 t.num, .int .u8 t.kind, .int .u8 t.cmd.kind, .int .i64 t.cmd.ten, Enc.str.lst t.cmd.keys, .str t.cmd.val, .int .u32 t.cmd.flags, .int .i64 t.cmd.for_, .int .u64 t.cmd.uniq, .int .u64 t.cmd.by_, .int .i64 t.ten, .int .i64 t.to], 0, .full⟩ : Blk) := by rw [← hG3, List.getElem?_set_ne (by omega)]; exact g4
  clear hG3 hR hst hp0 hpst hplen hpget hjs hkk hkne hold hu hys hsto hnod
  repeat' (first | simp only [go_sem, Nat.reduceLT, Nat.reduceEqDiff, Nat.reduceAdd, Nat.reduceMul, Nat.reduceSub, Nat.reduceLeDiff, Int.reduceToNat, Int.reduceNeg, Int.reduceLT, Int.reduceLE, Int.reduceEq, reduceCtorEq, Int.natCast_zero, Int.natCast_one, Int.cast_ofNat_Int, Bool.not_not, false_eq_decide, true_eq_decide, hread0, hreadk, read_cons0, read_consk, astore_h0, astore_hk, hget0, hgetk, hset0, hsetk, hlen, hcat, Nat.add_assoc, Nat.add_zero, Nat.zero_add, List.length_append, and_true, true_and, AV.flat, g3, get_app g3, read_get g3, read_app g3, hxo, one_solid hxo, one_cells hxo, hyo, one_solid hyo, one_cells hyo, *, -hK, -c1, -hbk, -hq1, -hq2, -W, -kJ, -g1, -g2, -g4, -hli, -hJl, -hpl2, -back2, -hpl1, -hx, -hgx, -ow, -hxp, -hy2, -hy3, -W2, -hpg2, -kJ3, -y3, -y4, -y5, -y6] | with_reducible refine IfB_dec (fun h => ?_) (fun h => ?_) | with_reducible refine Guard_dec (fun h => ?_) (fun h => ?_) | with_reducible refine Guard_ndec (fun h => ?_) (fun h => ?_) | with_reducible refine Guard_not (fun h => ?_) (fun h => ?_) | with_reducible refine IfB_ndec (fun h => ?_) (fun h => ?_) | with_reducible refine IfB_not (fun h => ?_) (fun h => ?_) | with_reducible refine Guard_split (fun h => ?_) (fun h => ?_) | with_reducible refine IfB_split (fun h => ?_) (fun h => ?_))
  refine WX_rows hT hmix [(0, none), (1, none), (2, none), (3, none), (4, none), (5, none), (6, none), (7, none), (8, none), (9, none), (10, some [true, true, true, true, true, true, true, true, true, true])] (by kernel_rfl) ?_
  repeat' (first | simp only [go_sem, Nat.reduceLT, Nat.reduceEqDiff, Nat.reduceAdd, Nat.reduceMul, Nat.reduceSub, Nat.reduceLeDiff, Int.reduceToNat, Int.reduceNeg, Int.reduceLT, Int.reduceLE, Int.reduceEq, reduceCtorEq, Int.natCast_zero, Int.natCast_one, Int.cast_ofNat_Int, Bool.not_not, false_eq_decide, true_eq_decide, hread0, hreadk, read_cons0, read_consk, astore_h0, astore_hk, hget0, hgetk, hset0, hsetk, hlen, hcat, Nat.add_assoc, Nat.add_zero, Nat.zero_add, List.length_append, and_true, true_and, AV.flat, g3, get_app g3, read_get g3, read_app g3, hxo, one_solid hxo, one_cells hxo, hyo, one_solid hyo, one_cells hyo, *, -hK, -c1, -hbk, -hq1, -hq2, -W, -kJ, -g1, -g2, -g4, -hli, -hJl, -hpl2, -back2, -hpl1, -hx, -hgx, -ow, -hxp, -hy2, -hy3, -W2, -hpg2, -kJ3, -y3, -y4, -y5, -y6] | with_reducible refine IfB_dec (fun h => ?_) (fun h => ?_) | with_reducible refine Guard_dec (fun h => ?_) (fun h => ?_) | with_reducible refine Guard_ndec (fun h => ?_) (fun h => ?_) | with_reducible refine Guard_not (fun h => ?_) (fun h => ?_) | with_reducible refine IfB_ndec (fun h => ?_) (fun h => ?_) | with_reducible refine IfB_not (fun h => ?_) (fun h => ?_) | with_reducible refine Guard_split (fun h => ?_) (fun h => ?_) | with_reducible refine IfB_split (fun h => ?_) (fun h => ?_))
  exact back2 _ _ _ (by (repeat (first | exact hs | refine hA _ _ _ (by decide) ?_))) (by simp only [go_sem, Nat.reduceLT, Nat.reduceEqDiff, Nat.reduceAdd, Nat.reduceMul, Nat.reduceSub, Nat.reduceLeDiff, Int.reduceToNat, Int.reduceNeg, Int.reduceLT, Int.reduceLE, Int.reduceEq, reduceCtorEq]) kJ3 y3 y4 y5 y6 W2
end Go.Proofs.Ytkmkhiipiflelaa
