import Derived.Test.YtkmkhiipiflelaaTktO
set_option linter.unusedSimpArgs false
set_option linter.unusedVariables false
set_option maxRecDepth 100000
set_option maxHeartbeats 4000000
namespace Go.Proofs.Ytkmkhiipiflelaa
open Go Go.Proofs Go.Proofs.PI
/-! ### own boxes in memory -/
structure BxO (m : Nat) (H : Heap) (p : Nat) (ps : List AV) (l : List (List Tkt)) : Prop where
  len : ps.length = l.length
  ge : m ≤ p
  blk : ∃ st rest, H[p]? = some (⟨ps ++ rest, 1, st⟩ : Blk) ∧ st.own = true
  el : ∀ (i : Nat) x t, ps[i]? = some x → l[i]? = some t → OwnE tktE m H x t ∧ x.blk ≠ some p
  dis : ∀ (i j : Nat) x y b, i ≠ j → ps[i]? = some x → ps[j]? = some y → x.blk = some b → y.blk ≠ some b
section
variable {m p : Nat} {H : Heap} {ps : List AV} {l : List (List Tkt)} {T' : TypeId → Option TD}
theorem BxO.get (o : BxO m H p ps l) {i : Nat} (h : i < l.length) : ∃ x, ps[i]? = some x ∧ l[i]? = some l[i] ∧ OwnE tktE m H x l[i] ∧ x.blk ≠ some p := by
  have h1 := List.getElem?_eq_getElem (l := ps) (i := i) (by rw [o.len]; exact h)
  have h2 := List.getElem?_eq_getElem h
  exact ⟨_, h1, h2, o.el i _ _ h1 h2⟩
theorem BxO.addr {t e : TypeId} (he : asliceElem T' t = some (e, 1)) {i n : Nat} (hi : i < n) : aindexAddr T' t (.sl p 0 n none) (.int .i64 (i : Int)) = some (.ptr p i) := by
  simp only [aindexAddr, he]
  rw [if_pos ⟨by omega, by omega⟩, Int.toNat_natCast, Nat.zero_add, Nat.mul_one]
theorem BxO.lt (o : BxO m H p ps l) : p < H.length := by
  obtain ⟨st, rest, h, -⟩ := o.blk
  exact (List.getElem?_eq_some_iff.1 h).1
theorem BxO.lts (o : BxO m H p ps l) {i : Nat} {x : AV} {b : Nat} (hx : ps[i]? = some x) (hb : x.blk = some b) : m ≤ b ∧ b < H.length ∧ b ≠ p := by
  have hi : i < l.length := by rw [← o.len]; exact (List.getElem?_eq_some_iff.1 hx).1
  obtain ⟨h1, h2⟩ := o.el i x _ hx (List.getElem?_eq_getElem hi)
  exact ⟨h1.ge hb, h1.lt hb, fun e => h2 (by rw [hb, e])⟩
theorem BxO.read (o : BxO m H p ps l) {i : Nat} {x : AV} (hx : ps[i]? = some x) : H.read p i 1 = some [x] := by
  obtain ⟨st, rest, h, h2⟩ := o.blk
  obtain ⟨hi, e⟩ := List.getElem?_eq_some_iff.1 hx
  unfold Heap.read
  rw [h]
  simp only [own_alive h2, true_and]
  rw [if_pos (by rw [List.length_append]; omega)]
  simp only [Option.some.injEq]
  rw [List.drop_append_of_le_length (by omega), List.take_append_of_le_length (by rw [List.length_drop]; omega), List.drop_eq_getElem_cons hi, e]
  rfl
theorem BxO.store (o : BxO m H p ps l) {i : Nat} {x : AV} (hx : ps[i]? = some x) {H2 : Heap} (h2 : H2[p]? = H[p]?) {te : TypeId} (hte : asize T' te = some 1) {s : AV} (hso : s.solid = true) (hc : s.cells = [s]) :
    ∃ st rest, st.own = true ∧ astore T' H2 te (.ptr p i) s = some (List.set H2 p ⟨ps.set i s ++ rest, 1, st⟩) := by
  obtain ⟨st, rest, h, hst⟩ := o.blk
  have hi : i < ps.length := (List.getElem?_eq_some_iff.1 hx).1
  refine ⟨st, rest, hst, ?_⟩
  simp only [astore, hte, h2, h, hst, hso, hc, List.length_cons, List.length_nil, true_and]
  rw [if_pos (by rw [List.length_append]; omega), wr_left _ _ _ _ (by simp; omega), wr_one _ _ _ (by omega)]
theorem own_same {sz : Nat} {v : AV} {cs : List AV} {G : Heap} (ho : Own m H v sz cs) (hs : ∀ b, v.blk = some b → G[b]? = H[b]?) : Own m G v sz cs := by
  rcases ho with ho | ⟨b, n, st1, rest1, rfl, h1, h2, h4⟩
  · exact .inl ho
  · exact .inr ⟨b, n, st1, rest1, rfl, h1, by rw [hs b rfl]; exact h2, h4⟩
/-- What is not theirs may change. -/
theorem BxO.other {G : Heap} (o : BxO m H p ps l) (h : ∀ b, b = p ∨ (∃ (i : Nat) (x : AV), ps[i]? = some x ∧ x.blk = some b) → G[b]? = H[b]?) : BxO m G p ps l := by
  refine ⟨o.len, o.ge, ?_, fun i x t hx ht => ?_, o.dis⟩
  · obtain ⟨st, rest, h1, h2⟩ := o.blk
    exact ⟨st, rest, by rw [h p (.inl rfl)]; exact h1, h2⟩
  · obtain ⟨g1, g2⟩ := o.el i x t hx ht
    exact ⟨own_same g1 fun b hb => h b (.inr ⟨i, x, hx, hb⟩), g2⟩
theorem BxO.keep (o : BxO m H p ps l) {G : Heap} (k : Keep none H G) : BxO m G p ps l :=
  o.other fun b hb => k.at_ b (by rcases hb with rfl | ⟨i, x, hx, hb⟩; exact o.lt; exact (o.lts hx hb).2.1) (by simp)
theorem BxO.low (o : BxO m H p ps l) {G : Heap} (h : ∀ b, m ≤ b → b < H.length → G[b]? = H[b]?) : BxO m G p ps l :=
  o.other fun b hb => by
    rcases hb with rfl | ⟨i, x, hx, hb⟩
    · exact h _ o.ge o.lt
    · exact h _ (o.lts hx hb).1 (o.lts hx hb).2.1
theorem BxO.mono (o : BxO m H p ps l) {m2 : Nat} (hm : m2 ≤ m) : BxO m2 H p ps l :=
  ⟨o.len, Nat.le_trans hm o.ge, o.blk, fun i x t hx ht => ⟨Own.mono (o.el i x t hx ht).1 hm, (o.el i x t hx ht).2⟩, o.dis⟩
/-- One of them has grown, and is stored. -/
theorem BxO.upd (o : BxO m H p ps l) {i : Nat} {x y : AV} {t t2 : List Tkt} (hx : ps[i]? = some x) (ht : l[i]? = some t) {H2 : Heap} (k : Keep x.blk H H2) (o2 : OwnE tktE m H2 y t2) (hn : ∀ b, y.blk = some b → x.blk = some b ∨ H.length ≤ b)
    (rest : List AV) (st : St) (hst : st.own = true) : BxO m (List.set H2 p ⟨ps.set i y ++ rest, 1, st⟩) p (ps.set i y) (l.set i t2) := by
  have hi : i < ps.length := (List.getElem?_eq_some_iff.1 hx).1
  have hp2 : p < H2.length := Nat.lt_of_lt_of_le o.lt k.len
  have hyp : y.blk ≠ some p := fun e => by
    rcases hn p e with h | h
    · exact (o.el i x t hx ht).2 h
    · have := o.lt; omega
  have hyj : ∀ (j : Nat) z b, j ≠ i → ps[j]? = some z → y.blk = some b → z.blk ≠ some b := fun j z b hj hz hb hzb => by
    rcases hn b hb with h | h
    · exact o.dis j i z x b hj hz hx hzb h
    · have := (o.lts hz hzb).2.1; omega
  refine ⟨by rw [List.length_set, List.length_set]; exact o.len, o.ge, ⟨st, rest, List.getElem?_set_self hp2, hst⟩, fun j z u hz hu => ?_, fun j j2 z z2 b hne hz hz2 hzb => ?_⟩
  · by_cases e : i = j
    · subst e
      rw [List.getElem?_set_self hi] at hz
      rw [List.getElem?_set_self (by rw [← o.len]; exact hi)] at hu
      simp only [Option.some.injEq] at hz hu
      subst hz; subst hu
      exact ⟨own_same o2 fun b hb => List.getElem?_set_ne fun e => hyp (by rw [hb, e]), hyp⟩
    · rw [List.getElem?_set_ne e] at hz hu
      obtain ⟨g1, g2⟩ := o.el j z u hz hu
      refine ⟨own_same g1 fun b hb => ?_, g2⟩
      rw [List.getElem?_set_ne fun e => g2 (by rw [hb, e]), k.at_ b (g1.lt hb) fun e2 => o.dis j i z x b (fun e3 => e e3.symm) hz hx hb e2]
  · by_cases e : i = j
    · subst e
      rw [List.getElem?_set_self hi] at hz
      rw [List.getElem?_set_ne hne] at hz2
      simp only [Option.some.injEq] at hz
      subst hz
      exact hyj j2 z2 b (fun e => hne e.symm) hz2 hzb
    · rw [List.getElem?_set_ne e] at hz
      by_cases e2 : i = j2
      · subst e2
        rw [List.getElem?_set_self hi] at hz2
        simp only [Option.some.injEq] at hz2
        subst hz2
        exact fun hh => hyj j z b (fun e => hne e) hz hh hzb
      · rw [List.getElem?_set_ne e2] at hz2
        exact o.dis j j2 z z2 b hne hz hz2 hzb
theorem boxE_row (l : List (List Tkt)) : boxE.row l = l.map tktE.lst := by
  induction l with
  | nil => rfl
  | cons t l ih => rw [Enc.row_cons, ih]; rfl
theorem BxO.thaw (o : BxO m H p ps l) : Thaw m H (.sl p 0 l.length none) (boxE.lst l) := by
  obtain ⟨st, rest, h, hst⟩ := o.blk
  have hlen := o.len
  refine .sl p 0 _ _ _ _ o.ge h hst ?_ fun i a c ha hc => ?_
  · rw [boxE_row, List.length_map, List.length_append]; omega
  · rw [Nat.zero_add] at ha
    rw [boxE_row] at hc
    have hi : i < l.length := by have := (List.getElem?_eq_some_iff.1 hc).1; rwa [List.length_map] at this
    rw [List.getElem?_append_left (by omega)] at ha
    rw [List.getElem?_map, List.getElem?_eq_getElem hi] at hc
    cases hc
    exact (o.el _ _ _ ha (List.getElem?_eq_getElem hi)).1.thaw (by decide)
theorem BxO.new (J : Heap) (n : Nat) (hm : m ≤ J.length) {st : St} (hst : st.own = true) : BxO m (J ++ [⟨List.replicate n .nils, 1, st⟩]) J.length (List.replicate n .nils) (List.replicate n []) := by
  refine ⟨by simp, hm, ⟨st, [], by simp, hst⟩, fun i x t hx ht => ?_, fun i j x y b _ hx hy hb => ?_⟩
  · have hx := List.eq_of_mem_replicate (List.mem_of_getElem? hx)
    have ht := List.eq_of_mem_replicate (List.mem_of_getElem? ht)
    subst hx; subst ht
    exact ⟨OwnE.nils _ _ _, by simp [AV.blk]⟩
  · have hx := List.eq_of_mem_replicate (List.mem_of_getElem? hx)
    subst hx; cases hb
end
end Go.Proofs.Ytkmkhiipiflelaa
